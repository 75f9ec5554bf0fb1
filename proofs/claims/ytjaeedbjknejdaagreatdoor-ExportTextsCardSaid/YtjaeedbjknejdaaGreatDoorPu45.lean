/- Packed texts: TreBlk, TreStr, TrePrt, TrePrA, TreValR -/
import Derived.Test.YtjaeedbjknejdaaGreatDoorPu44
set_option linter.unusedVariables false
set_option linter.unusedSimpArgs false
set_option maxHeartbeats 16000000
set_option maxRecDepth 100000
namespace Go.Proofs.YtjaeedbjknejdaaGreatDoor.Tr
open Go.RowKit Go.Sort Go.Lib Go.Shelf Fx Lx
theorem extKp {w0 w w':World}{b:Nat}(x:Ext w0 w)(k:Kp w0.heap.size b w w'):Ext w0 w':=Below.trans x k.1
theorem cluster_of (B b lev:Nat)(ar:ByteArray)(d:Bool)(l:List UInt8)(nm:ByteArray)(rs al:List Two)(body:List Stm)(r a b':Option Addr)(rc ac bc:Nat)(w:World)(hnm:nm.size<=140737488355328)
    (hB:B<=w.heap.size)
    (h:∀ w1,Ext w w1->Calls Tryz.prog 81 #[.pointer (some ⟨b,0,none⟩),.string (⟨#[99,108,117,115,116,101,114,32]⟩++nm),.slice b' body.length bc] w1 fun e w'=>e=.returned (.tuple #[])/\Wr B b ar lev (l++blockT d lev ([99,108,117,115,116,101,114,32]++nm.data.toList) body) w'/\Kp B b w1 w') :
    StmW B b ar d lev l 201 (.mk 5 nm rs al body) (.agg #[.int .i64 5,.string nm,.slice r rs.length rc,.slice a al.length ac,.slice b' body.length bc]) w:=by
  unfold StmW;rw[printS_mk,if_neg (by decide),if_neg (by decide),if_neg (by decide),if_neg (by decide)]
  have hbt:blockT d lev ([99,108,117,115,116,101,114,32]++nm.data.toList) body=indT lev++[99,108,117,115,116,101,114,32]++nm.data.toList++[32,123,10]++printL d (lev+1) body++indT lev++[125,10]:=by
    unfold blockT;simp only[List.append_assoc,List.cons_append,List.nil_append]
  rw[<-hbt];have hx0:Ext w (w.alloc (.cells #[.int .i64 5,.string nm,.slice r rs.length rc,.slice a al.length ac,.slice b' body.length bc] 67)):=(Ext.refl _).alloc _;have hadd:∀ w,(Op.stringOp .add ⟨#[99,108,117,115,116,101,114,32]⟩ nm).run Tryz.prog w=.ok (.string (⟨#[99,108,117,115,116,101,114,32]⟩++nm)) w:=fun w=>run_string_add_sum w _ _ (by show 8+_<=_;omega)
  have H:=Lib.hid (h _ hx0);have HB:=Lib.hid hB;clear h hbt;have HX:=Lib.hid hx0;clear hx0;generalize rs.length=R at *;generalize al.length=A at *;generalize body.length=C at *;go_enter Tryz.func201,Tryz.ntmps201;go_wp2_with (go_at_call 81;refine H.out.mono ?_;rintro e w1 ⟨rfl,h1,x1⟩)
  go_end0
  exact⟨rfl,h1,(Kp.of HB.out HX.out).trans x1⟩
theorem block_any (w0:World)(he:Env w0)(b:Nat)(ar:ByteArray)(d:Bool)(har:32::(ar.data.toList++[32])=arrow d)(har2:ar.size<=100):∀ (M:Nat) (L:List Stm) (sb:Option Addr) (cap lev:Nat) (l:List UInt8) (head:ByteArray) (w:World),sizeL L<=M->M<=1048576->lev+M<=2000000->Formed L->StmsAt w0.heap.size w sb L->Ext w0 w->Wr w0.heap.size b ar lev l w ->
    l.length+(blockT d lev head.data.toList L).length+300<=140737488355328 ->
    Calls Tryz.prog 81 #[.pointer (some ⟨b,0,none⟩),.string head,.slice sb L.length cap] w fun e w'=>e=.returned (.tuple #[])/\Wr w0.heap.size b ar lev (l++blockT d lev head.data.toList L) w'/\Kp w0.heap.size b w w':=by
  intro M
  induction M using Nat.strongRecOn with
  | _ M ih =>
  intro L sb cap lev l head w hM hM2 hlev hfm hst x0 hwr hlen;obtain⟨H0,hH0⟩:∃ H0,H0=l++indT lev++(head.data.toList++[32,123])++[10]:=⟨_,rfl⟩
  have hall:l++blockT d lev head.data.toList L=H0++printL d (lev+1) L++indT lev++[125]++[10]:=by
    rw[hH0];unfold blockT;simp only[List.append_assoc]
  have hlen2:H0.length+(printL d (lev+1) L).length+4 * lev+2+300<=140737488355328:=by
    have h:=congrArg List.length hall;simp only[List.length_append,ind_len,List.length_cons,List.length_nil] at h hlen;omega
  have hhd:l.length+4 * lev+head.size+3<=H0.length:=by rw[hH0];simp only[List.length_append,ind_len,List.length_cons,List.length_nil,<- size_len];omega
  rw[hall];have hbl:=hwr.lt;have hc1:catT [head,⟨#[32,123]⟩]=head.data.toList++[32,123]:=by simp[catT]
  have hl1:=line_any w0.heap.size b lev w.heap.size ar l [head,⟨#[32,123]⟩] (w.alloc (.cells #[.string head,.string ⟨#[32,123]⟩] 9)) (hwr.ext ((Ext.refl _).alloc _)) (heap_alloc_new w _) (by omega) (by have:=x0.size;simp;omega) (by simp) (by rw[hc1,List.length_append,<- size_len];simp only[List.length_cons,List.length_nil];omega);rw[hc1,<- hH0] at hl1
  have hl2:∀ (w1:World) (g:Nat),g=w1.heap.size->Ext w0 w1->Wr w0.heap.size b ar lev (H0++printL d (lev+1) L) w1 ->
      Calls Tryz.prog 147 #[.pointer (some ⟨b,0,none⟩),.slice (some ⟨g,0,none⟩) 1 1] (w1.alloc (.cells #[.string ⟨#[125]⟩] 9)) fun e w'=>e=.returned (.tuple #[])/\Wr w0.heap.size b ar lev (H0++printL d (lev+1) L++indT lev++[125]++[10]) w'/\Kp w0.heap.size b (w1.alloc (.cells #[.string ⟨#[125]⟩] 9)) w':=fun w1 g e x h=>by
    subst e;exact line_any w0.heap.size b lev w1.heap.size ar (H0++printL d (lev+1) L) [⟨#[125]⟩] (w1.alloc (.cells #[.string ⟨#[125]⟩] 9)) (h.ext ((Ext.refl _).alloc _)) (heap_alloc_new w1 _) (by have:=h.lt;omega) (by have:=x.size;simp;omega) (by simp) (by rw[List.length_append];show _+4 * lev+1+1<=_;omega)
  have hBb:=hwr.le;obtain⟨N,hN⟩:∃ N,N=L.length:=⟨_,rfl⟩;have hN2:N<=1048576:=by have:=sizeL_len L;omega
  rw[<-hN];have HN:=Lib.hid hN;have HL1:=Lib.hid hl1;have HL2:=Lib.hid hl2;have HX0:=Lib.hid x0;have HST:=Lib.hid hst;have HFM:=Lib.hid hfm;have HLEN:=Lib.hid hlen2;have HIH:=Lib.hid ih;have HM:=Lib.hid hM;have HM2:=Lib.hid hM2;have HLV:=Lib.hid hlev;have HBB:=Lib.hid hBb;have HE:=Lib.hid he;have HAR:=Lib.hid har;have HBL:=Lib.hid hbl;have HKA:Hid (Kp w0.heap.size b w (w.alloc (.cells #[.string head,.string ⟨#[32,123]⟩] 9))):=Lib.hid (Kp.of x0.size ((Ext.refl _).alloc _));have hlv:lev<=2000000:=by omega
  clear hN hl1 hl2 x0 hst hfm hlen hlen2 ih hM hM2 hlev hwr hall hhd hc1 hH0 hBb he har hbl;go_enter Tryz.func81,Tryz.ntmps81;go_wp2_with (go_at_call 147;refine HL1.out.mono ?_;rintro e w1 ⟨rfl,h1,x1⟩;have q3:=h1.cells.2.1;have q4:=h1.cells.2.2;replace h1:=Lib.hid h1)
  go_loopw [21] (fun i' wr=>∃ k:Nat,k<=N/\i'=.int .i64 k/\Hid (Wr w0.heap.size b ar ((lev+1:Nat):Int) (H0++printL d (lev+1) (L.take k)) wr)/\Kp w0.heap.size b w wr) (fun i' _=>N - (RowKit.intOf i').toNat)
  case atStart =>
    refine⟨0,by omega,rfl,Lib.hid ?_,(HKA.out.trans x1).trans (Kp.lev HBB.out _)⟩;rw[List.take_zero,printL_nil,List.append_nil];have:=h1.out.lev ((lev+1:Nat):Int)
    push_cast at this ⊢
    exact this
  obtain⟨k,hk,rfl,hw,hx⟩:=hrel;by_cases hlt:k < N
  · have hkl:k < L.length:=by rw[<-HN.out];exact hlt
    have hin:=StmsAt.below hx.1 L HST.out;obtain⟨g,o,rfl,hg,hst⟩:=StmsAt.at L hin k hkl;have hsz:sizeS L[k]<=M:=Nat.le_trans (sizeL_at L k hkl) HM.out;have hfk:=HFM.out.at k hkl;have hsub:=flat_sub 0 L k hkl;have hsub2:=fun lev=>flat_sub lev L k hkl
    have hpt:=printL_take d (lev+1) L k hkl;have hple:=printL_le d (lev+1) L (k+1);obtain⟨s,hs⟩:∃ s,s=L[k]:=⟨_,rfl⟩;rw[<-hs] at hst hsz hfk hpt hsub2;rw[hpt,List.length_append] at hple;clear hs hin hsub;obtain⟨kind,nm,rs,al,body⟩:=s;have hbd:=sizeS_body (.mk kind nm rs al body);simp only[Stm.kind,Stm.body,Stm.name,Stm.refs,Stm.attrs] at hbd hsub2;rw[StmAt] at hst;obtain⟨r,rc,a,ac,b',bc,c0,c1,c2,c3,c4,hr,ha,hbs,hl1',hl2,hl3,hl4,hl5⟩:=hst;have hxa:Ext wr (wr.alloc (.cells #[.int .i64 kind,.string nm,.slice r rs.length rc,.slice a al.length ac,.slice b' body.length bc] 67)):=(Ext.refl _).alloc _;have xw:Ext w0 wr:=extKp HX0.out hx
    have hq:∀ w1,Ext wr w1->WrQ w0.heap.size b (lev+1) ar d (H0++printL d (lev+1) (L.take k)) rs al r a w1:=fun w1 x=>⟨hw.out.ext x,(xw.trans x).size,HE.out.ext (xw.trans x),hr.below (x.mono xw.size),ha.below (x.mono xw.size),by have:=sizeTwo_len rs;have:=HM2.out;omega,by have:=sizeTwo_len al;have:=HM2.out;omega,fun q hq=>by have:=sizeTwo_at al q hq;have:=HM2.out;omega,HAR.out,har2⟩
    have hln:(H0++printL d (lev+1) (L.take k)).length+(printS d (lev+1) (.mk kind nm rs al body)).length+300<=140737488355328:=by
      have:=HLEN.out;rw[List.length_append];omega
    have S0:=stm_cells wr kind nm r a b' rs.length al.length body.length rc ac bc _ (Ext.refl _);have HNE:Hid (wr.heap.size ≠ b):=Lib.hid (by have:=HBL.out;have:=hw.out.lt;omega);have HPT:=Lib.hid hpt;have hkd:=formB_parts kind nm rs al body hfk;have HXW:Hid (w0.heap.size<=wr.heap.size):=Lib.hid xw.size;rcases hkd with rfl | rfl | rfl | ⟨rfl,p,rfl⟩ | rfl
    · have hw1:=fun w1 (x:Ext _ w1)=>stm_1 w0.heap.size b (lev+1) ar d (H0++printL d (lev+1) (L.take k)) nm rs al body r a b' rc ac bc w1 (hq w1 (hxa.trans x)) hln
      unfold StmW at hw1;have HW:=Lib.hid hw1;clear hw1 hq hln hr ha hbs hl1' hl2 hl3 hl4 hl5 hbd hsz hfk hsub2 hpt hple xw hxa hw;generalize al.length=A at *;generalize rs.length=R at *;generalize body.length=C at *;go_wp2_with fail
      go_region_held3 (fun w'=>w'.cell? ⟨wr.heap.size,0,none⟩=some (.int .i64 1)/\w'.cell? ⟨wr.heap.size,1,none⟩=some (.string nm)/\w'.cell? ⟨wr.heap.size,2,none⟩=some (.slice r R rc)/\w'.cell? ⟨wr.heap.size,3,none⟩=some (.slice a A ac)/\w'.cell? ⟨wr.heap.size,4,none⟩=some (.slice b' C bc))
        (first | exact S0 | exact f2)
        (first
          | (go_at_call 148;refine(writes_1 _).mono ?_;rintro e w1 ⟨rfl,rfl⟩)
          | (go_at_call 197;refine(HW.out _ (Ext.refl _).drew).mono ?_;rintro e w2 ⟨rfl,h2,x2⟩;have f2:w2.cell? ⟨wr.heap.size,0,none⟩=some (.int .i64 1)/\w2.cell? ⟨wr.heap.size,1,none⟩=some (.string nm)/\w2.cell? ⟨wr.heap.size,2,none⟩=some (.slice r R rc)/\w2.cell? ⟨wr.heap.size,3,none⟩=some (.slice a A ac)/\w2.cell? ⟨wr.heap.size,4,none⟩=some (.slice b' C bc):=(by
              have hb:=x2.blk (heap_alloc_new wr (.cells #[.int .i64 1,.string nm,.slice r R rc,.slice a A ac,.slice b' C bc] 67)) HNE.out (by decide)
              refine⟨?_,?_,?_,?_,?_⟩ <;> rw[Lib.cell_of_heap hb] <;> rfl)))
      go_wp2
      go_roundw
      case rel=>exact⟨k+1,by omega,by go_num,Lib.hid (by rw[HPT.out,<- List.append_assoc];exact h2),hx.trans ((Kp.of HXW.out (((Ext.refl _).alloc _).drew)).trans x2)⟩
      case measure=>simp[RowKit.intOf];omega
    · have hw1:=fun w1 (x:Ext _ w1)=>stm_2 w0.heap.size b (lev+1) ar d (H0++printL d (lev+1) (L.take k)) nm rs al body r a b' rc ac bc w1 (hq w1 (hxa.trans x)) hln
      unfold StmW at hw1;have HW:=Lib.hid hw1;clear hw1 hq hln hr ha hbs hl1' hl2 hl3 hl4 hl5 hbd hsz hfk hsub2 hpt hple xw hxa hw;generalize al.length=A at *;generalize rs.length=R at *;generalize body.length=C at *;go_wp2_with fail
      go_region_held3 (fun w'=>w'.cell? ⟨wr.heap.size,0,none⟩=some (.int .i64 2)/\w'.cell? ⟨wr.heap.size,1,none⟩=some (.string nm)/\w'.cell? ⟨wr.heap.size,2,none⟩=some (.slice r R rc)/\w'.cell? ⟨wr.heap.size,3,none⟩=some (.slice a A ac)/\w'.cell? ⟨wr.heap.size,4,none⟩=some (.slice b' C bc))
        (first | exact S0 | exact f2)
        (first
          | (go_at_call 148;refine(writes_2 _).mono ?_;rintro e w1 ⟨rfl,rfl⟩)
          | (go_at_call 198;refine(HW.out _ (Ext.refl _).drew).mono ?_;rintro e w2 ⟨rfl,h2,x2⟩;have f2:w2.cell? ⟨wr.heap.size,0,none⟩=some (.int .i64 2)/\w2.cell? ⟨wr.heap.size,1,none⟩=some (.string nm)/\w2.cell? ⟨wr.heap.size,2,none⟩=some (.slice r R rc)/\w2.cell? ⟨wr.heap.size,3,none⟩=some (.slice a A ac)/\w2.cell? ⟨wr.heap.size,4,none⟩=some (.slice b' C bc):=(by
              have hb:=x2.blk (heap_alloc_new wr (.cells #[.int .i64 2,.string nm,.slice r R rc,.slice a A ac,.slice b' C bc] 67)) HNE.out (by decide)
              refine⟨?_,?_,?_,?_,?_⟩ <;> rw[Lib.cell_of_heap hb] <;> rfl)))
      go_wp2
      go_roundw
      case rel=>exact⟨k+1,by omega,by go_num,Lib.hid (by rw[HPT.out,<- List.append_assoc];exact h2),hx.trans ((Kp.of HXW.out (((Ext.refl _).alloc _).drew)).trans x2)⟩
      case measure=>simp[RowKit.intOf];omega
    · have hw1:=fun w1 (x:Ext _ w1)=>stm_3 w0.heap.size b (lev+1) ar d (H0++printL d (lev+1) (L.take k)) nm rs al body r a b' rc ac bc w1 (hq w1 (hxa.trans x)) hln
      unfold StmW at hw1;have HW:=Lib.hid hw1;clear hw1 hq hln hr ha hbs hl1' hl2 hl3 hl4 hl5 hbd hsz hfk hsub2 hpt hple xw hxa hw;generalize al.length=A at *;generalize rs.length=R at *;generalize body.length=C at *;go_wp2_with fail
      go_region_held3 (fun w'=>w'.cell? ⟨wr.heap.size,0,none⟩=some (.int .i64 3)/\w'.cell? ⟨wr.heap.size,1,none⟩=some (.string nm)/\w'.cell? ⟨wr.heap.size,2,none⟩=some (.slice r R rc)/\w'.cell? ⟨wr.heap.size,3,none⟩=some (.slice a A ac)/\w'.cell? ⟨wr.heap.size,4,none⟩=some (.slice b' C bc))
        (first | exact S0 | exact f2)
        (first
          | (go_at_call 148;refine(writes_3 _).mono ?_;rintro e w1 ⟨rfl,rfl⟩)
          | (go_at_call 199;refine(HW.out _ (Ext.refl _).drew).mono ?_;rintro e w2 ⟨rfl,h2,x2⟩;have f2:w2.cell? ⟨wr.heap.size,0,none⟩=some (.int .i64 3)/\w2.cell? ⟨wr.heap.size,1,none⟩=some (.string nm)/\w2.cell? ⟨wr.heap.size,2,none⟩=some (.slice r R rc)/\w2.cell? ⟨wr.heap.size,3,none⟩=some (.slice a A ac)/\w2.cell? ⟨wr.heap.size,4,none⟩=some (.slice b' C bc):=(by
              have hb:=x2.blk (heap_alloc_new wr (.cells #[.int .i64 3,.string nm,.slice r R rc,.slice a A ac,.slice b' C bc] 67)) HNE.out (by decide)
              refine⟨?_,?_,?_,?_,?_⟩ <;> rw[Lib.cell_of_heap hb] <;> rfl)))
      go_wp2
      go_roundw
      case rel=>exact⟨k+1,by omega,by go_num,Lib.hid (by rw[HPT.out,<- List.append_assoc];exact h2),hx.trans ((Kp.of HXW.out (((Ext.refl _).alloc _).drew)).trans x2)⟩
      case measure=>simp[RowKit.intOf];omega
    · have hw1:=fun w1 (x:Ext _ w1)=>stm_4 w0.heap.size b (lev+1) ar d (H0++printL d (lev+1) (L.take k)) nm rs body r a b' rc ac bc w1 p (hq w1 (hxa.trans x)) hln
      unfold StmW at hw1;have HW:=Lib.hid hw1;clear hw1 hq hln hr ha hbs hl1' hl2 hl3 hl4 hl5 hbd hsz hfk hsub2 hpt hple xw hxa hw;generalize [p].length=A at *;generalize rs.length=R at *;generalize body.length=C at *;go_wp2_with fail
      go_region_held3 (fun w'=>w'.cell? ⟨wr.heap.size,0,none⟩=some (.int .i64 4)/\w'.cell? ⟨wr.heap.size,1,none⟩=some (.string nm)/\w'.cell? ⟨wr.heap.size,2,none⟩=some (.slice r R rc)/\w'.cell? ⟨wr.heap.size,3,none⟩=some (.slice a A ac)/\w'.cell? ⟨wr.heap.size,4,none⟩=some (.slice b' C bc))
        (first | exact S0 | exact f2)
        (first
          | (go_at_call 148;refine(writes_4 _).mono ?_;rintro e w1 ⟨rfl,rfl⟩)
          | (go_at_call 200;refine(HW.out _ (Ext.refl _).drew).mono ?_;rintro e w2 ⟨rfl,h2,x2⟩;have f2:w2.cell? ⟨wr.heap.size,0,none⟩=some (.int .i64 4)/\w2.cell? ⟨wr.heap.size,1,none⟩=some (.string nm)/\w2.cell? ⟨wr.heap.size,2,none⟩=some (.slice r R rc)/\w2.cell? ⟨wr.heap.size,3,none⟩=some (.slice a A ac)/\w2.cell? ⟨wr.heap.size,4,none⟩=some (.slice b' C bc):=(by
              have hb:=x2.blk (heap_alloc_new wr (.cells #[.int .i64 4,.string nm,.slice r R rc,.slice a A ac,.slice b' C bc] 67)) HNE.out (by decide)
              refine⟨?_,?_,?_,?_,?_⟩ <;> rw[Lib.cell_of_heap hb] <;> rfl)))
      go_wp2
      go_roundw
      case rel=>exact⟨k+1,by omega,by go_num,Lib.hid (by rw[HPT.out,<- List.append_assoc];exact h2),hx.trans ((Kp.of HXW.out (((Ext.refl _).alloc _).drew)).trans x2)⟩
      case measure=>simp[RowKit.intOf];omega
    have hw1:=fun w1 (x:Ext _ w1)=>cluster_of w0.heap.size b (lev+1) ar d (H0++printL d (lev+1) (L.take k)) nm rs al body r a b' rc ac bc w1 (by have:=HM2.out;omega) ((xw.trans (hxa.trans x)).size) (fun w2 x2=>by
        have hdd:(⟨#[99,108,117,115,116,101,114,32]⟩++nm:ByteArray).data.toList=[99,108,117,115,116,101,114,32]++nm.data.toList:=by simp[ByteArray.data_append]
        have x3:=(hxa.trans x).trans x2
        have h:=HIH.out (sizeL body) (by omega) body b' bc (lev+1) (H0++printL d (lev+1) (L.take k)) (⟨#[99,108,117,115,116,101,114,32]⟩++nm) w2 (Nat.le_refl _) (by have:=HM2.out;omega) (by have:=HLV.out;omega) (formed_of HFM.out (hsub2 0)) (StmsAt.below (x3.mono xw.size) body hbs) (xw.trans x3) (hw.out.ext x3) (by
          rw[hdd];rw[printS_mk,if_neg (by decide),if_neg (by decide),if_neg (by decide),if_neg (by decide)] at hln;unfold blockT;simp only[List.length_append,List.length_cons,List.length_nil] at hln ⊢
          omega)
        rw[hdd] at h
        exact h)
    unfold StmW at hw1;have HW:=Lib.hid hw1;clear hw1 hq hln hr ha hbs hl1' hl2 hl3 hl4 hl5 hbd hsz hfk hsub2 hpt hple xw hxa hw;generalize al.length=A at *;generalize rs.length=R at *;generalize body.length=C at *;go_wp2_with fail
    go_region_held3 (fun w'=>w'.cell? ⟨wr.heap.size,0,none⟩=some (.int .i64 5)/\w'.cell? ⟨wr.heap.size,1,none⟩=some (.string nm)/\w'.cell? ⟨wr.heap.size,2,none⟩=some (.slice r R rc)/\w'.cell? ⟨wr.heap.size,3,none⟩=some (.slice a A ac)/\w'.cell? ⟨wr.heap.size,4,none⟩=some (.slice b' C bc))
      (first | exact S0 | exact f2)
      (first
        | (go_at_call 148;refine(writes_5 _).mono ?_;rintro e w1 ⟨rfl,rfl⟩)
        | (go_at_call 201;refine(HW.out _ (Ext.refl _).drew).mono ?_;rintro e w2 ⟨rfl,h2,x2⟩;have f2:w2.cell? ⟨wr.heap.size,0,none⟩=some (.int .i64 5)/\w2.cell? ⟨wr.heap.size,1,none⟩=some (.string nm)/\w2.cell? ⟨wr.heap.size,2,none⟩=some (.slice r R rc)/\w2.cell? ⟨wr.heap.size,3,none⟩=some (.slice a A ac)/\w2.cell? ⟨wr.heap.size,4,none⟩=some (.slice b' C bc):=(by
            have hb:=x2.blk (heap_alloc_new wr (.cells #[.int .i64 5,.string nm,.slice r R rc,.slice a A ac,.slice b' C bc] 67)) HNE.out (by decide)
            refine⟨?_,?_,?_,?_,?_⟩ <;> rw[Lib.cell_of_heap hb] <;> rfl)))
    go_wp2
    go_roundw
    case rel=>exact⟨k+1,by omega,by go_num,Lib.hid (by rw[HPT.out,<- List.append_assoc];exact h2),hx.trans ((Kp.of HXW.out (((Ext.refl _).alloc _).drew)).trans x2)⟩
    case measure=>simp[RowKit.intOf];omega
  have hkn:k=L.length:=by have:=HN.out;omega
  have h1:=hw.out;rw[hkn,List.take_length] at h1;have h2:=h1.lev (lev:Int);have c3:wr.cell? ⟨b,3,none⟩=some (.int .i64 ((lev:Int)+1)):=by have:=h1.cells.2.1;push_cast at this;exact this
  have c4:=h1.cells.2.2;have hl:=HL2.out _ wr.heap.size (by simp[World.setCell]) (Below.trans (extKp HX0.out hx) ((Below.refl _ wr).setCell (p:=⟨b,3,none⟩) HBB.out (.int .i64 lev))) h2;have HL:=Lib.hid hl;have HXW:Hid (w0.heap.size<=wr.heap.size):=Lib.hid (extKp HX0.out hx).size;clear hl h1 h2 hkn hw;go_wp2_with (go_at_call 147;refine HL.out.mono ?_;rintro e w2 ⟨rfl,h3,x3⟩);go_returns;exact⟨rfl,h3,((hx.trans (Kp.lev HBB.out _)).trans (Kp.of (by simpa [World.setCell] using HXW.out) ((Ext.refl _).alloc _))).trans x3⟩
end Go.Proofs.YtjaeedbjknejdaaGreatDoor.Tr

namespace Go.Proofs.YtjaeedbjknejdaaGreatDoor.Tr
open Go.RowKit Go.Sort Go.Lib Go.Shelf Fx Lx
theorem strOf_any (B b:Nat)(ar:ByteArray)(lev:Int)(l:List UInt8)(w:World)(h:Wr B b ar lev l w)(h0:l ≠ []):
    Calls Tryz.prog 82 #[.pointer (some ⟨b,0,none⟩)] w fun e w'=>e=.returned (.string ⟨l.toArray⟩)/\Below B w w':=by
  obtain⟨p,hAt⟩:∃ p,WrAt B b p ar lev (Lib.byteCells l) w:=by
    rcases h with h | h
    · exact⟨_,h⟩
    exact⟨_,h⟩
  obtain⟨hB,v,hbk,hown,hne⟩:=hAt;have hl0:l.length ≠ 0:=by simpa using h0
  rw[Lib.byteCells_length] at hown
  obtain⟨g,cap,cur,fz,rfl,hbg,hg,hfz,hnc,hcm,hcs,htake⟩:∃ g cap cur fz,v=.slice (some ⟨g,0,none⟩) l.length cap/\B<=g/\w.heap[g]? = some (.cells cur 5 fz)/\fz.2<=l.length * 1/\l.length<=cap/\cap<=maxLen/\cur.size=cap * 1/\cur.toList.take (l.length * 1)=Lib.byteCells l:=by
    rcases hown.2 with⟨_,hz⟩ | ⟨g,cap,cur,fz,hv,r⟩
    · exact absurd hz hl0
    exact⟨g,cap,cur,fz,hv,r⟩
  have c1:w.drew.cell? ⟨b,1,none⟩=some (.slice (some ⟨g,0,none⟩) l.length cap):=by
    have:w.drew.heap[b]? = some (.cells #[p,.slice (some ⟨g,0,none⟩) l.length cap,.string ar,.int .i64 lev] 152 (0,0)):=hbk;rw[Lib.cell_of_heap this];rfl
  have hSD:(Builtin.unsafeSliceData_ #[148] 211 #[.slice (some ⟨g,0,none⟩) l.length cap]).run Tryz.prog w.drew=.ok (.pointer (some ⟨g,0,none⟩)) w.drew :=
    Lib.run_unsafeSliceData_row _ _ _ _ _ _ (by omega)
  have hUS:(Builtin.unsafeString_ #[211,3] 9 #[.pointer (some ⟨g,0,none⟩),.int .i64 l.length]).run Tryz.prog w.drew=.ok (.string ⟨l.toArray⟩) (w.drew.freeze ⟨g,0,none⟩ l.length):=by
    refine Lib.run_unsafeString_row w.drew 211 3 9 5 Tryz.underlying211 Tryz.Builder_Extra_169.cellsByte g cur.size (by have hg':w.drew.heap[g]? = some (.cells cur 5 fz):=hg;simp[World.shape?,hg']) l h0 (by omega) (by unfold maxLen at hcm;omega) ?_;intro j x hx;have:=hown.cells (g:=g) rfl j (.int .u8 x.toNat) (by simp[Lib.byteCells,hx]);exact this
  have mixed:Tryz.prog.follows Departure.mixedOrders=true:=by kernel_rfl
  go_enter Tryz.func82,Tryz.ntmps82;go_wp2
  go_region_o
  all_goals (go_wp2;go_ret;exact⟨rfl,Lib.below_freeze (Below.drew (Below.refl B w)) (p:=⟨g,0,none⟩) hbg _⟩)
end Go.Proofs.YtjaeedbjknejdaaGreatDoor.Tr

namespace Go.Proofs.YtjaeedbjknejdaaGreatDoor.Tr
open Go.RowKit Go.Sort Go.Lib Go.Shelf Fx Lx
theorem wr_new (w w1:World)(x:Ext w w1):Wr w.heap.size w1.heap.size ⟨#[45,45]⟩ 0 [] (w1.alloc (.cells #[.pointer none,.slice none 0 0,.string ⟨#[45,45]⟩,.int .i64 0] 152)) :=
  .inl ⟨x.size,_,heap_alloc_new w1 _,World.ownsRowF_nil _ _ _ _,by simp[Value.ownBlock]⟩
theorem wr_new2 (w w1:World)(x:Ext w w1):Wr w.heap.size w1.heap.size ⟨#[45,62]⟩ 0 [] (w1.alloc (.cells #[.pointer none,.slice none 0 0,.string ⟨#[45,62]⟩,.int .i64 0] 152)) :=
  .inl ⟨x.size,_,heap_alloc_new w1 _,World.ownsRowF_nil _ _ _ _,by simp[Value.ownBlock]⟩
theorem print_true (nm:ByteArray)(b:Option Addr)(L:List Stm)(cap:Nat)(w:World)(he:Env w)(h:StmsAt w.heap.size w b L)(hs:sizeL L<=1048576)(hnm:nm.size<=1048576)(hlen:(printT true nm L).length+1000<=140737488355328)(hv:validE nm L=0):
    Calls Tryz.prog 37 #[.agg #[.string nm,.bool true,.slice b L.length cap]] w fun e w'=>e=.returned (.string ⟨(printT true nm L).toArray⟩)/\Ext w w':=by
  have hx0:Ext w (w.alloc (.cells #[.string nm,.bool true,.slice b L.length cap] 33)):=(Ext.refl _).alloc _;have hval:=fun w' (x:Ext w w')=>valid_any nm true b L cap w.heap.size w' x.size (StmsAt.below x L h) hs (by omega)
  rw[hv] at hval;have hfm:=formed_valid nm L hv;have hhd:(⟨#[100,105,103,114,97,112,104,32]⟩++nm:ByteArray).data.toList=[100,105,103,114,97,112,104,32]++nm.data.toList:=by simp[ByteArray.data_append]
  have hbt:blockT true 0 (⟨#[100,105,103,114,97,112,104,32]⟩++nm:ByteArray).data.toList L=printT true nm L:=by
    rw[hhd];unfold blockT printT;rw[show indT 0=[] from rfl];simp[List.append_assoc]
  have hcl:=fun w1 (x:Ext (w.alloc (.cells #[.string nm,.bool true,.slice b L.length cap] 33)) w1)=>tree_cells w nm true b L.length cap w1 x
  have hblk:=fun w1 (x:Ext w w1)=>block_any w he w1.heap.size ⟨#[45,62]⟩ true (by rfl) (by decide) 1048576 L b cap 0 [] (⟨#[100,105,103,114,97,112,104,32]⟩++nm) (w1.alloc (.cells #[.pointer none,.slice none 0 0,.string ⟨#[45,62]⟩,.int .i64 0] 152)) hs (by omega) (by omega) hfm (StmsAt.below (x.alloc _) L h) (x.alloc _) (wr_new2 w w1 x) (by rw[hbt];simp;omega)
  rw[hbt,List.nil_append] at hblk;have hne:printT true nm L ≠ []:=by unfold printT;simp
  have hadd:∀ w,(Op.stringOp .add ⟨#[100,105,103,114,97,112,104,32]⟩ nm).run Tryz.prog w=.ok (.string (⟨#[100,105,103,114,97,112,104,32]⟩++nm)) w:=fun w=>run_string_add_sum w _ _ (by show 8+_<=_;omega)
  have HVAL:=Lib.hid hval;have HCL:=Lib.hid hcl;have HBLK:=Lib.hid hblk;have HX:=Lib.hid hx0;have HNE:=Lib.hid hne;clear hval hcl hblk hx0 hne h hs hnm hlen hv hfm hhd hbt he;generalize printT true nm L=P at *;generalize L.length=N at *;go_enter Tryz.func37,Tryz.ntmps37
  go_wp2_with (first
    | (go_at_call 30;refine(HVAL.out _ HX.out).mono ?_;rintro e w1 ⟨rfl,x1⟩;obtain⟨k0,k1,k2⟩:=HCL.out _ (x1.alloc (.cells #[.pointer none,.slice none 0 0,.string ⟨#[45,45]⟩,.int .i64 0] 152));obtain⟨m0,m1,m2⟩:=HCL.out _ (x1.alloc (.cells #[.pointer none,.slice none 0 0,.string ⟨#[45,62]⟩,.int .i64 0] 152)))
    | (go_at_call 81;refine(HBLK.out _ (HX.out.trans x1)).mono ?_;rintro e w2 ⟨rfl,h2,x2⟩)
    | (go_at_call 82;refine(strOf_any _ _ _ _ P _ h2 HNE.out).mono ?_;rintro e w3 ⟨rfl,x3⟩))
  go_ret;exact⟨rfl,Below.trans (Below.trans ((HX.out.trans x1).alloc _) x2.1) x3⟩
theorem print_false (nm:ByteArray)(b:Option Addr)(L:List Stm)(cap:Nat)(w:World)(he:Env w)(h:StmsAt w.heap.size w b L)(hs:sizeL L<=1048576)(hnm:nm.size<=1048576)(hlen:(printT false nm L).length+1000<=140737488355328)(hv:validE nm L=0):
    Calls Tryz.prog 37 #[.agg #[.string nm,.bool false,.slice b L.length cap]] w fun e w'=>e=.returned (.string ⟨(printT false nm L).toArray⟩)/\Ext w w':=by
  have hx0:Ext w (w.alloc (.cells #[.string nm,.bool false,.slice b L.length cap] 33)):=(Ext.refl _).alloc _;have hval:=fun w' (x:Ext w w')=>valid_any nm false b L cap w.heap.size w' x.size (StmsAt.below x L h) hs (by omega)
  rw[hv] at hval;have hfm:=formed_valid nm L hv;have hhd:(⟨#[103,114,97,112,104,32]⟩++nm:ByteArray).data.toList=[103,114,97,112,104,32]++nm.data.toList:=by simp[ByteArray.data_append]
  have hbt:blockT false 0 (⟨#[103,114,97,112,104,32]⟩++nm:ByteArray).data.toList L=printT false nm L:=by
    rw[hhd];unfold blockT printT;rw[show indT 0=[] from rfl];simp[List.append_assoc]
  have hcl:=fun w1 (x:Ext (w.alloc (.cells #[.string nm,.bool false,.slice b L.length cap] 33)) w1)=>tree_cells w nm false b L.length cap w1 x
  have hblk:=fun w1 (x:Ext w w1)=>block_any w he w1.heap.size ⟨#[45,45]⟩ false (by rfl) (by decide) 1048576 L b cap 0 [] (⟨#[103,114,97,112,104,32]⟩++nm) (w1.alloc (.cells #[.pointer none,.slice none 0 0,.string ⟨#[45,45]⟩,.int .i64 0] 152)) hs (by omega) (by omega) hfm (StmsAt.below (x.alloc _) L h) (x.alloc _) (wr_new w w1 x) (by rw[hbt];simp;omega)
  rw[hbt,List.nil_append] at hblk;have hne:printT false nm L ≠ []:=by unfold printT;simp
  have hadd:∀ w,(Op.stringOp .add ⟨#[103,114,97,112,104,32]⟩ nm).run Tryz.prog w=.ok (.string (⟨#[103,114,97,112,104,32]⟩++nm)) w:=fun w=>run_string_add_sum w _ _ (by show 6+_<=_;omega)
  have HVAL:=Lib.hid hval;have HCL:=Lib.hid hcl;have HBLK:=Lib.hid hblk;have HX:=Lib.hid hx0;have HNE:=Lib.hid hne;clear hval hcl hblk hx0 hne h hs hnm hlen hv hfm hhd hbt he;generalize printT false nm L=P at *;generalize L.length=N at *;go_enter Tryz.func37,Tryz.ntmps37
  go_wp2_with (first
    | (go_at_call 30;refine(HVAL.out _ HX.out).mono ?_;rintro e w1 ⟨rfl,x1⟩;obtain⟨k0,k1,k2⟩:=HCL.out _ (x1.alloc (.cells #[.pointer none,.slice none 0 0,.string ⟨#[45,45]⟩,.int .i64 0] 152));skip)
    | (go_at_call 81;refine(HBLK.out _ (HX.out.trans x1)).mono ?_;rintro e w2 ⟨rfl,h2,x2⟩)
    | (go_at_call 82;refine(strOf_any _ _ _ _ P _ h2 HNE.out).mono ?_;rintro e w3 ⟨rfl,x3⟩))
  go_ret;exact⟨rfl,Below.trans (Below.trans ((HX.out.trans x1).alloc _) x2.1) x3⟩
end Go.Proofs.YtjaeedbjknejdaaGreatDoor.Tr

namespace Go.Proofs.YtjaeedbjknejdaaGreatDoor.Tr
open Go.RowKit Go.Sort Go.Lib Go.Shelf Fx Lx
theorem print_bad (nm:ByteArray)(dir:Bool)(b:Option Addr)(L:List Stm)(cap:Nat)(w:World)(h:StmsAt w.heap.size w b L)(hs:sizeL L<=1048576)(hnm:nm.size<=1048576)(hv:validE nm L ≠ 0):
    Calls Tryz.prog 37 #[.agg #[.string nm,.bool dir,.slice b L.length cap]] w fun e w'=>e=.returned (.string ⟨#[]⟩)/\Ext w w':=by
  have hx0:Ext w (w.alloc (.cells #[.string nm,.bool dir,.slice b L.length cap] 33)):=(Ext.refl _).alloc _;have hval:=fun w' (x:Ext w w')=>valid_any nm dir b L cap w.heap.size w' x.size (StmsAt.below x L h) hs (by omega)
  generalize validE nm L=V at *;obtain⟨f0,f0'⟩:=ne_facts hv;generalize L.length=N at *;have HVAL:=Lib.hid hval;have HX:=Lib.hid hx0;clear hval hx0 h hs hnm hv;go_enter Tryz.func37,Tryz.ntmps37;go_wp2_with (go_at_call 30;refine(HVAL.out _ HX.out).mono ?_;rintro e w1 ⟨rfl,x1⟩);go_ret;exact⟨rfl,HX.out.trans x1⟩
theorem print_any (nm:ByteArray)(dir:Bool)(b:Option Addr)(L:List Stm)(cap:Nat)(w:World)(he:Env w)(h:StmsAt w.heap.size w b L)(hs:sizeL L<=1048576)(hnm:nm.size<=1048576)(hlen:validE nm L=0->(printT dir nm L).length+1000<=140737488355328):
    Calls Tryz.prog 37 #[.agg #[.string nm,.bool dir,.slice b L.length cap]] w fun e w'=>e=.returned (.string ⟨(if validE nm L=0 then printT dir nm L else []).toArray⟩)/\Ext w w':=by
  by_cases hv:validE nm L=0
  · rw[if_pos hv];cases dir
    · exact print_false nm b L cap w he h hs hnm (hlen hv) hv
    exact print_true nm b L cap w he h hs hnm (hlen hv) hv
  rw[if_neg hv];exact print_bad nm dir b L cap w h hs hnm hv
end Go.Proofs.YtjaeedbjknejdaaGreatDoor.Tr

namespace Go.Proofs.YtjaeedbjknejdaaGreatDoor.Tr
open Go.RowKit Go.Sort Go.Lib Go.Shelf Fx Lx
theorem valueR_any (s:ByteArray)(w:World)(hs:s.size < 4294967281):
    Calls Tryz.prog 205 #[.string s] w fun e w'=>e=.returned (.string ⟨(valueT s).toArray⟩)/\w=w':=by
  have hnm:=isNameR_any s (by omega) w;have hps:=parseR_any s w (by omega);have hqt:=fun w'=>Qo.quoteR_any s w' (by omega)
  obtain⟨V,hV⟩:∃ V:ByteArray,V=⟨(valueT s).toArray⟩:=⟨_,rfl⟩;rw[<-hV];have hmk:(⟨s.data.toList.toArray⟩:ByteArray)=s:=Lib.mk_data s;unfold valueT at hV;unfold Qo.quoteV at hqt;generalize nameB s.data.toList=p at *;generalize (parse s.data.toList).1=u at *;generalize (parse s.data.toList).2=k at *;generalize (quote s.data.toList).1=t at *;generalize (quote s.data.toList).2=r at *;have HN:=Lib.hid hnm;have HP:=Lib.hid hps;have HQ:=Lib.hid hqt;clear hnm hps hqt hs;cases p
  · rw[if_neg (by decide)] at hV;by_cases hk:k=0
    · rw[if_pos hk,hmk] at hV;subst hk;have hf:=Lib.hid hV;clear hV;go_enter Tryz.func205,Tryz.ntmps205;go_wp2_with (first | (go_at_call 72;refine HN.out.mono ?_;rintro e w3 ⟨rfl,rfl⟩) | (go_at_call 209;refine HP.out.mono ?_;rintro e w1 ⟨rfl,rfl⟩));go_ret;exact⟨by rw[hf.out];rfl,rfl⟩
    rw[if_neg hk] at hV;obtain⟨f0,f0'⟩:=ne_facts hk;have hf:=Lib.hid hV;clear hV hk;go_enter Tryz.func205,Tryz.ntmps205;go_wp2_with (first | (go_at_call 72;refine HN.out.mono ?_;rintro e w3 ⟨rfl,rfl⟩) | (go_at_call 209;refine HP.out.mono ?_;rintro e w1 ⟨rfl,rfl⟩) | (go_at_call 242;refine(HQ.out _).mono ?_;rintro e w2 ⟨rfl,rfl⟩));go_ret;exact⟨by rw[hf.out];rfl,rfl⟩
  rw[if_pos rfl,hmk] at hV;have hf:=Lib.hid hV;clear hV;go_enter Tryz.func205,Tryz.ntmps205;go_wp2_with (go_at_call 72;refine HN.out.mono ?_;rintro e w3 ⟨rfl,rfl⟩);go_ret;exact⟨by rw[hf.out];rfl,rfl⟩
end Go.Proofs.YtjaeedbjknejdaaGreatDoor.Tr
