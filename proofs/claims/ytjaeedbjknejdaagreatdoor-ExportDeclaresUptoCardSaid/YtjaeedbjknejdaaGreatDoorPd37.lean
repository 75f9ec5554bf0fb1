/- Packed texts: TreNode, TreEdge, TreBlock, TreBlk, TreStr, TrePrt -/
import Derived.Test.YtjaeedbjknejdaaGreatDoorPd36
set_option linter.unusedVariables false
set_option linter.unusedSimpArgs false
set_option maxHeartbeats 16000000
set_option maxRecDepth 100000
namespace Go.Proofs.YtjaeedbjknejdaaGreatDoor.Tr
open Go.RowKit Go.Sort Go.Lib Go.Shelf Fx Lx
theorem Wr.ext {B b:Nat}{ar:ByteArray}{lev:Int}{l:List UInt8}{w w':World}(h:Wr B b ar lev l w)(x:Ext w w'):Wr B b ar lev l w':=WrIn.ext h x
theorem Wr.lt {B b:Nat}{ar:ByteArray}{lev:Int}{l:List UInt8}{w:World}(h:Wr B b ar lev l w):b < w.heap.size:=by rcases h with h | h <;> exact h.lt
theorem Kp.of {B b:Nat}{w w':World}(hB:B<=w.heap.size)(x:Ext w w'):Kp B b w w' :=
 ⟨x.mono hB,fun k o hk _ _=>(x.block k (Array.getElem?_eq_some_iff.1 hk).1).trans hk⟩
theorem Kp.blk {B b g:Nat}{w w':World}{cs:Array Value}{T:TypeId}{fz:Nat × Nat}(h:Kp B b w w')(hg:w.heap[g]? = some (.cells cs T fz))(hne:g ≠ b)(hT:T ≠ 5):w'.heap[g]? = some (.cells cs T fz) :=
 h.2 g _ hg (by simpa using hne) (fun c f e=>by injection e with _ h _;exact hT h)
theorem node_any (B b lev:Nat)(ar:ByteArray)(l:List UInt8)(k:Int)(nm:ByteArray)(R C rc ac bc:Nat)(r a b':Option Addr)(al:List Two)(w:World)(h:Wr B b ar lev l w)(hB:B<=w.heap.size)(he:Env w)(ha:TwoIn w a al)
  (hL:al.length<=2000000) (hs:∀ q ∈ al,q.2.size < 4294967281) (hlen:l.length+4 * lev+nm.size+(tailT al).length+100<=140737488355328) :
  Calls Tryz.prog 197 #[.pointer (some ⟨b,0,none⟩),.agg #[.int .i64 k,.string nm,.slice r R rc,.slice a al.length ac,.slice b' C bc]] w fun e w'=>e=.returned (.tuple #[])/\Wr B b ar lev (l++indT lev++(nm.data.toList++tailT al)++[10]) w'/\Kp B b w w':=by
 have hx0:Ext w (w.alloc (.cells #[.int .i64 k,.string nm,.slice r R rc,.slice a al.length ac,.slice b' C bc] 67)):=(Ext.refl _).alloc _;obtain⟨T,hT⟩:∃ T:ByteArray,T=⟨(tailT al).toArray⟩:=⟨_,rfl⟩;have htl:=fun w' (x:Ext w w')=>tail_any a al ac w' (ha.ext x) hL hs (by omega) (he.ext x)
 rw[<-hT] at htl;have hbl:=h.lt;have hTl:T.data.toList=tailT al:=by rw[hT]
 have hcat:catT [nm,T]=nm.data.toList++tailT al:=by simp[catT,hTl]
 have hline:=fun w1 (x:Ext w w1)=>line_any B b lev w1.heap.size ar l [nm,T] (w1.alloc (.cells #[.string nm,.string T] 9)) (h.ext (x.alloc _)) (heap_alloc_new w1 _) (by have:=x.size;omega) (by have:=x.size;simp;omega) (by simp) (by rw[hcat,List.length_append,<- size_len];omega)
 rw[hcat] at hline;have hcl:=stm_cells w k nm r a b' R al.length C rc ac bc;generalize al.length=A at *;have HT:=hid htl;have HL:=hid hline;have HX:=hid hx0;have HCL:=hid hcl;have HBL:=hid hbl;have HB:=hid hB;clear htl hline hx0 h hB he ha hL hs hlen hT hTl hcat hcl hbl;have e1:=(HCL.out _ (Ext.refl _)).2.1;have e3:=(HCL.out _ (Ext.refl _)).2.2.2.1;go_enter Tryz.func197,Tryz.ntmps197;go_wp2_with fail
 go_region_held3 (fun w'=>w'.cell? ⟨w.heap.size,1,none⟩=some (.string nm)/\w'.cell? ⟨w.heap.size,3,none⟩=some (.slice a A ac))
  (first | exact⟨e1,e3⟩ | exact⟨(HCL.out _ x1).2.1,(HCL.out _ x1).2.2.2.1⟩ | exact⟨(HCL.out _ (x1.alloc _)).2.1,(HCL.out _ (x1.alloc _)).2.2.2.1⟩ | exact f2)
  (first
   | (go_at_call 239;refine(HT.out _ (HX.out.trans (Ext.refl _).drew)).mono ?_;rintro e w1 ⟨rfl,x1⟩;replace x1:Ext (w.alloc (.cells #[.int .i64 k,.string nm,.slice r R rc,.slice a A ac,.slice b' C bc] 67)) w1:=((Ext.refl _).drew).trans x1)
   | (go_at_call 147;refine(HL.out _ (HX.out.trans x1)).mono ?_;rintro e w2 ⟨rfl,h2,x2⟩;have f2:w2.cell? ⟨w.heap.size,1,none⟩=some (.string nm)/\w2.cell? ⟨w.heap.size,3,none⟩=some (.slice a A ac):=(by
     have hb:=x2.blk (((x1.alloc (.cells #[.string nm,.string T] 9)).block w.heap.size (by simp)).trans (heap_alloc_new w _)) (by have:=HBL.out;omega) (by decide)
     constructor <;> rw[Lib.cell_of_heap hb] <;> rfl)))
 go_wp2
 go_end0
 exact⟨rfl,h2,(Kp.of HB.out ((HX.out.trans x1).alloc _)).trans x2⟩
theorem defaults_any (B b lev:Nat)(ar:ByteArray)(l:List UInt8)(k:Int)(nm:ByteArray)(R C rc ac bc:Nat)(r a b':Option Addr)(al:List Two)(w:World)(h:Wr B b ar lev l w)(hB:B<=w.heap.size)(he:Env w)(ha:TwoIn w a al)
  (hL:al.length<=2000000) (hs:∀ q ∈ al,q.2.size < 4294967281) (hlen:l.length+4 * lev+nm.size+(listedT al).length+100<=140737488355328) :
  Calls Tryz.prog 199 #[.pointer (some ⟨b,0,none⟩),.agg #[.int .i64 k,.string nm,.slice r R rc,.slice a al.length ac,.slice b' C bc]] w fun e w'=>e=.returned (.tuple #[])/\Wr B b ar lev (l++indT lev++(nm.data.toList++[32]++listedT al++[59])++[10]) w'/\Kp B b w w':=by
 have hx0:Ext w (w.alloc (.cells #[.int .i64 k,.string nm,.slice r R rc,.slice a al.length ac,.slice b' C bc] 67)):=(Ext.refl _).alloc _;obtain⟨T,hT⟩:∃ T:ByteArray,T=⟨(listedT al).toArray⟩:=⟨_,rfl⟩;have htl:=fun w' (x:Ext w w')=>listed_any a al ac w' (ha.ext x) hL hs (by omega) (he.ext x)
 rw[<-hT] at htl;have hbl:=h.lt;have hTl:T.data.toList=listedT al:=by rw[hT]
 have hcat:catT [nm,⟨#[32]⟩,T,⟨#[59]⟩]=nm.data.toList++[32]++listedT al++[59]:=by simp[catT,hTl]
 have hline:=fun w1 (x:Ext w w1)=>line_any B b lev w1.heap.size ar l [nm,⟨#[32]⟩,T,⟨#[59]⟩] (w1.alloc (.cells #[.string nm,.string ⟨#[32]⟩,.string T,.string ⟨#[59]⟩] 9)) (h.ext (x.alloc _)) (heap_alloc_new w1 _) (by have:=x.size;omega) (by have:=x.size;simp;omega) (by simp) (by rw[hcat];simp only[List.length_append,List.length_cons,List.length_nil];rw[<-size_len];omega)
 rw[hcat] at hline;have hcl:=stm_cells w k nm r a b' R al.length C rc ac bc;generalize al.length=A at *;have HT:=hid htl;have HL:=hid hline;have HX:=hid hx0;have HCL:=hid hcl;have HBL:=hid hbl;have HB:=hid hB;clear htl hline hx0 h hB he ha hL hs hlen hT hTl hcat hcl hbl;have e1:=(HCL.out _ (Ext.refl _)).2.1;have e3:=(HCL.out _ (Ext.refl _)).2.2.2.1;go_enter Tryz.func199,Tryz.ntmps199;go_wp2_with fail
 go_region_held3 (fun w'=>w'.cell? ⟨w.heap.size,1,none⟩=some (.string nm)/\w'.cell? ⟨w.heap.size,3,none⟩=some (.slice a A ac))
  (first | exact⟨e1,e3⟩ | exact⟨(HCL.out _ x1).2.1,(HCL.out _ x1).2.2.2.1⟩ | exact⟨(HCL.out _ (x1.alloc _)).2.1,(HCL.out _ (x1.alloc _)).2.2.2.1⟩ | exact f2)
  (first
   | (go_at_call 240;refine(HT.out _ (HX.out.trans (Ext.refl _).drew)).mono ?_;rintro e w1 ⟨rfl,x1⟩;replace x1:Ext (w.alloc (.cells #[.int .i64 k,.string nm,.slice r R rc,.slice a A ac,.slice b' C bc] 67)) w1:=((Ext.refl _).drew).trans x1)
   | (go_at_call 147;refine(HL.out _ (HX.out.trans x1)).mono ?_;rintro e w2 ⟨rfl,h2,x2⟩;have f2:w2.cell? ⟨w.heap.size,1,none⟩=some (.string nm)/\w2.cell? ⟨w.heap.size,3,none⟩=some (.slice a A ac):=(by
     have hb:=x2.blk (((x1.alloc (.cells #[.string nm,.string ⟨#[32]⟩,.string T,.string ⟨#[59]⟩] 9)).block w.heap.size (by simp)).trans (heap_alloc_new w _)) (by have:=HBL.out;omega) (by decide)
     constructor <;> rw[Lib.cell_of_heap hb] <;> rfl)))
 go_wp2
 go_end0
 exact⟨rfl,h2,(Kp.of HB.out ((HX.out.trans x1).alloc _)).trans x2⟩
theorem set_any (B b lev:Nat)(ar:ByteArray)(l:List UInt8)(k:Int)(nm:ByteArray)(R C rc ac bc g o:Nat)(r b':Option Addr)(kk v:ByteArray)(w:World)(h:Wr B b ar lev l w)(hB:B<=w.heap.size)(he:Env w)(hg:g < B)(hv:w.cell? ⟨g,o+1,none⟩=some (.string v))
  (hs:v.size < 4294967281) (hlen:l.length+4 * lev+nm.size+(valueT v).length+100<=140737488355328) :
  Calls Tryz.prog 200 #[.pointer (some ⟨b,0,none⟩),.agg #[.int .i64 k,.string nm,.slice r R rc,.slice (some ⟨g,o,none⟩) 1 ac,.slice b' C bc]] w fun e w'=>e=.returned (.tuple #[])/\Wr B b ar lev (l++indT lev++([115,101,116,32]++nm.data.toList++[32,61,32]++valueT v++[59])++[10]) w'/\Kp B b w w':=by
 have hx0:Ext w (w.alloc (.cells #[.int .i64 k,.string nm,.slice r R rc,.slice (some ⟨g,o,none⟩) 1 ac,.slice b' C bc] 67)):=(Ext.refl _).alloc _;obtain⟨T,hT⟩:∃ T:ByteArray,T=⟨(valueT v).toArray⟩:=⟨_,rfl⟩;have htl:=fun w' (x:Ext w w')=>value_any v w' hs (he.ext x)
 rw[<-hT] at htl;have hbl:=h.lt;have hTl:T.data.toList=valueT v:=by rw[hT]
 have hcat:catT [⟨#[115,101,116,32]⟩,nm,⟨#[32,61,32]⟩,T,⟨#[59]⟩]=[115,101,116,32]++nm.data.toList++[32,61,32]++valueT v++[59]:=by simp[catT,hTl]
 have hline:=fun w1 (x:Ext w w1)=>line_any B b lev w1.heap.size ar l [⟨#[115,101,116,32]⟩,nm,⟨#[32,61,32]⟩,T,⟨#[59]⟩] (w1.alloc (.cells #[.string ⟨#[115,101,116,32]⟩,.string nm,.string ⟨#[32,61,32]⟩,.string T,.string ⟨#[59]⟩] 9)) (h.ext (x.alloc _)) (heap_alloc_new w1 _) (by have:=x.size;omega) (by have:=x.size;simp;omega) (by simp) (by rw[hcat];simp only[List.length_append,List.length_cons,List.length_nil];rw[<-size_len];omega)
 rw[hcat] at hline;have hcl:=stm_cells w k nm r (some ⟨g,o,none⟩) b' R 1 C rc ac bc;have HT:=hid htl;have HL:=hid hline;have HX:=hid hx0;have HCL:=hid hcl;have HBL:=hid hbl;have HB:=hid hB;have HG:=hid hg;have HV:=hid hv;clear htl hline hx0 h hB he hs hlen hT hTl hcat hcl hbl hg hv;have e1:=(HCL.out _ (Ext.refl _)).2.1;have e3:=(HCL.out _ (Ext.refl _)).2.2.2.1;have e4:=HX.out.cell HV.out;go_enter Tryz.func200,Tryz.ntmps200;go_wp2_with fail
 go_region_held3 (fun w'=>w'.cell? ⟨w.heap.size,1,none⟩=some (.string nm)/\w'.cell? ⟨w.heap.size,3,none⟩=some (.slice (some ⟨g,o,none⟩) 1 ac)/\w'.cell? ⟨g,o+1,none⟩=some (.string v))
  (first | exact⟨e1,e3,e4⟩ | exact⟨(HCL.out _ x1).2.1,(HCL.out _ x1).2.2.2.1,(HX.out.trans x1).cell HV.out⟩ | exact⟨(HCL.out _ (x1.alloc _)).2.1,(HCL.out _ (x1.alloc _)).2.2.2.1,((HX.out.trans x1).alloc _).cell HV.out⟩ | exact f2)
  (first
   | (go_at_call 241;refine(HT.out _ (HX.out.trans (Ext.refl _).drew)).mono ?_;rintro e w1 ⟨rfl,x1⟩;replace x1:Ext (w.alloc (.cells #[.int .i64 k,.string nm,.slice r R rc,.slice (some ⟨g,o,none⟩) 1 ac,.slice b' C bc] 67)) w1:=((Ext.refl _).drew).trans x1)
   | (go_at_call 147;refine(HL.out _ (HX.out.trans x1)).mono ?_;rintro e w2 ⟨rfl,h2,x2⟩;have f2:w2.cell? ⟨w.heap.size,1,none⟩=some (.string nm)/\w2.cell? ⟨w.heap.size,3,none⟩=some (.slice (some ⟨g,o,none⟩) 1 ac)/\w2.cell? ⟨g,o+1,none⟩=some (.string v):=(by
     have hb:=x2.blk (((x1.alloc (.cells #[.string ⟨#[115,101,116,32]⟩,.string nm,.string ⟨#[32,61,32]⟩,.string T,.string ⟨#[59]⟩] 9)).block w.heap.size (by simp)).trans (heap_alloc_new w _)) (by have:=HBL.out;omega) (by decide);refine⟨?_,?_,?_⟩
     ·rw[Lib.cell_of_heap hb];rfl
     ·rw[Lib.cell_of_heap hb];rfl
     ·rw[x2.1.cell (p:=⟨g,o+1,none⟩) HG.out];exact((HX.out.trans x1).alloc _).cell HV.out)))
 go_wp2
 go_end0
 exact⟨rfl,h2,(Kp.of HB.out ((HX.out.trans x1).alloc _)).trans x2⟩
end Go.Proofs.YtjaeedbjknejdaaGreatDoor.Tr

namespace Go.Proofs.YtjaeedbjknejdaaGreatDoor.Tr
open Go.RowKit Go.Sort Go.Lib Go.Shelf Fx Lx
theorem joinOwn (B:Nat)(v:Value)(L:List (List UInt8))(sep:ByteArray)(w:World)(hown:w.ownsRow B 9 1 v L.length (strsV L))(hN:L.length<=2000000)(hlen:(sepT sep.data.toList L).length<=140737488355328):
  Calls Tryz.prog 133 #[v,.string sep] w fun e w'=>e=.returned (.string ⟨(sepT sep.data.toList L).toArray⟩)/\Ext w w':=by
 rcases hown.2 with⟨rfl,h0⟩ | ⟨g,cp,cur,rfl,hbg,hg,r1,r2,r3,r4⟩
 ·have hL0:L=[]:=List.eq_nil_of_length_eq_zero h0;subst hL0;refine(Tryz.strings_Join_none none 0 _ w).mono ?_;rintro e w' ⟨rfl,rfl⟩;exact⟨rfl,Ext.refl _⟩
 have hc:=Tryz.strings_Join g 0 cp (L.map (fun l=>(⟨l.toArray⟩:ByteArray))) sep w (fun j x hjx=>by
   have hc:=hown.cells (g:=g) rfl j (.string x) (by
    unfold strsV;rw[List.getElem?_map] at hjx ⊢;obtain⟨y,hy,rfl⟩:=Option.map_eq_some_iff.1 hjx
    rw[hy];rfl)
   have ha:(⟨g,0,none⟩:Addr).add j=⟨g,0+j,none⟩:=by unfold Addr.add;split <;> simp_all
   rw[ha] at hc;exact hc) (Array.getElem?_eq_some_iff.1 hg).1 (by simp;omega) (by simp;omega) (by
   rw[mapBack,<- sepT_join];omega)
 rw[mapBack,<- sepT_join,List.length_map] at hc;exact hc
theorem port_app (k p:ByteArray):k++((⟨#[58]⟩:ByteArray)++p)=⟨(k.data.toList++58::p.data.toList).toArray⟩:=by
 apply ByteArray.ext;simp[ByteArray.data_append]
theorem ref_le (sep:List UInt8)(L:List Two)(q:Two)(h:q ∈ L):q.1.size+q.2.size<=(sepT sep (L.map refT)).length:=by
 have:=sepT_le sep (refT q) (L.map refT) (List.mem_map_of_mem h)
 have e:q.1.size+q.2.size<=(refT q).length:=by
  unfold refT;rw[List.length_append,<- size_len];split
  ·omega
  rw[List.length_cons,<- size_len];omega
 omega
theorem edge_any (B b lev:Nat)(ar:ByteArray)(l:List UInt8)(kd:Int)(nm:ByteArray)(C rc ac bc:Nat)(r a b':Option Addr)(rs al:List Two)(w:World)(h:Wr B b ar lev l w)(hB:B<=w.heap.size)(he:Env w)(ha:TwoIn w a al)(hr:TwoIn w r rs)
  (hL:al.length<=2000000) (hR:rs.length<=2000000) (hs:∀ q ∈ al,q.2.size < 4294967281) (har:ar.size<=100)
  (hlen:l.length+4 * lev+(sepT (32::(ar.data.toList++[32])) (rs.map refT)).length+(tailT al).length+100<=140737488355328) :
  Calls Tryz.prog 198 #[.pointer (some ⟨b,0,none⟩),.agg #[.int .i64 kd,.string nm,.slice r rs.length rc,.slice a al.length ac,.slice b' C bc]] w fun e w'=>e=.returned (.tuple #[])/\Wr B b ar lev (l++indT lev++(sepT (32::(ar.data.toList++[32])) (rs.map refT)++tailT al)++[10]) w'/\Kp B b w w':=by
 obtain⟨i0,hi,hz0,hz1,hz2⟩:=info_parts info_str;have hx0:Ext w (w.alloc (.cells #[.int .i64 kd,.string nm,.slice r rs.length rc,.slice a al.length ac,.slice b' C bc] 67)):=(Ext.refl _).alloc _;obtain⟨T,hT⟩:∃ T:ByteArray,T=⟨(tailT al).toArray⟩:=⟨_,rfl⟩;obtain⟨J,hJ⟩:∃ J:ByteArray,J=⟨(sepT (32::(ar.data.toList++[32])) (rs.map refT)).toArray⟩:=⟨_,rfl⟩;have htl:=fun w' (x:Ext w w')=>tail_any a al ac w' (ha.ext x) hL hs (by omega) (he.ext x)
 rw[<-hT] at htl;have hbl:=h.lt;have hcat:catT [J,T]=sepT (32::(ar.data.toList++[32])) (rs.map refT)++tailT al:=by simp[catT,hT,hJ]
 have hline:=fun w1 (x:Ext w w1)=>line_any B b lev w1.heap.size ar l [J,T] (w1.alloc (.cells #[.string J,.string T] 9)) (h.ext (x.alloc _)) (heap_alloc_new w1 _) (by have:=x.size;omega) (by have:=x.size;simp;omega) (by simp) (by rw[hcat,List.length_append];omega)
 rw[hcat] at hline;have hcl:=stm_cells w kd nm r a b' rs.length al.length C rc ac bc;have hwc:=fun w1 (x:Ext w w1)=>(h.ext x).cells.1
 generalize al.length=A at *;obtain⟨N,hN⟩:∃ N,N=rs.length:=⟨_,rfl⟩;rw[<-hN] at hR hcl hx0 ⊢;have HT:=hid htl;have HL:=hid hline;have HX:=hid hx0;have HCL:=hid hcl;have HWC:=hid hwc;have HBL:=hid hbl;have HB:=hid hB;have HN:=hid hN;have HRI:=hid hr;have HJ:=hid hJ;have HLEN:=hid hlen;have hadd:∀ w,(Op.stringOp .add ⟨#[32]⟩ ar).run Tryz.prog w=.ok (.string (⟨#[32]⟩++ar)) w:=fun w=>run_string_add_sum w _ _ (by show 1+_<=_;omega)
 have hadd2:∀ w,(Op.stringOp .add (⟨#[32]⟩++ar) ⟨#[32]⟩).run Tryz.prog w=.ok (.string (⟨#[32]⟩++ar++⟨#[32]⟩)) w:=fun w=>run_string_add_sum w _ _ (by rw[ByteArray.size_append];show 1+_+1<=_;omega)
 clear htl hline hx0 h hB he ha hL hs hlen hT hcat hcl hbl hwc hN hr hJ har;go_enter Tryz.func198,Tryz.ntmps198;go_wp2
 go_loopw [4,11] (fun p i' wr=>∃ (k:Nat) (v:Value),k<=N/\v=p/\i'=.int .i64 k/\Ext (w.alloc (.cells #[.int .i64 kd,.string nm,.slice r N rc,.slice a A ac,.slice b' C bc] 67)) wr/\Hid (wr.ownsRow (w.heap.size+1) 9 1 v k (strsV ((rs.take k).map refT)))) (fun _ i' _=>N - (RowKit.intOf i').toNat)
 case atStart=>exact⟨0,_,by omega,rfl,rfl,Ext.refl _,hid (by rw[List.take_zero];exact World.ownsRow_nil _ _ _ _)⟩
 obtain⟨k,v,hk,rfl,rfl,hx,hown⟩:=hrel;by_cases hlt:k < N
 ·have hkl:k < rs.length:=by rw[<-HN.out];exact hlt
  obtain⟨g,o,rfl,c0,c1⟩:=(HRI.out.ext (HX.out.trans hx)) k hkl;obtain⟨n,d,hq⟩:∃ n d,rs[k]=(n,d):=⟨_,_,rfl⟩;rw[hq] at c0 c1;have hle:=ref_le (32::(ar.data.toList++[32])) rs _ (List.getElem_mem hkl);rw[hq] at hle;have n9:n.size+d.size<=140737488355328:=by have:=HLEN.out;dsimp only at hle;omega
  have hxb:Ext wr (wr.alloc (.cells #[.string n,.string d] 90)):=(Ext.refl _).alloc _;have hz:=@size0 d
  have hpart:∀ t:ByteArray,t.data.toList=refT (n,d)->strsV ((rs.take (k+1)).map refT)=strsV ((rs.take k).map refT)++[.string t]:=fun t ht=>by
   rw[List.take_succ_eq_append_getElem hkl,List.map_append,hq];unfold strsV;rw[List.map_append,List.map_cons,List.map_nil,List.map_cons,List.map_nil,<- ht,Lib.mk_data]
  have HP:=hid hpart;clear hpart hle hq hkl;by_cases hd:d.size=0
  ·rw[decide_eq_true hd] at hz;have hr0:n.data.toList=refT (n,d):=by unfold refT;rw[if_pos hd,List.append_nil]
   have HR0:=hid hr0;clear hr0 hd;go_wp2_with (at_builtin;refine wpList_append_own _ rfl _ _ 43 rfl (w.heap.size+1) 9 i0 _ 1 16 Tryz.underlying43 hi hz0 hz1 hz2 rfl (by decide) _ _ _ rfl (own_ext' hown.out (hxb.alloc _)) ⟨wr.heap.size+1,0,none⟩ 1 1 [.string n] rfl rfl ?c1 ?c2 ?c3 ?c4 ?c5 ?_)
   case c2=>rfl
   case c3=>unfold maxLen;omega
   case c4=>omega
   case c5=>have:=(hx.trans hxb).size;simp at this ⊢;omega
   intro v' w2 hown' hgrow _;go_wp2
   go_roundw
   case rel=>exact⟨k+1,_,by omega,rfl,by go_num,((hx.trans hxb).alloc (.cells #[.string n] 9)).grown hgrow (by have:=(hx.trans hxb).size;simp at this ⊢;omega) (fun k hk=>by have:=(hown.out.lt k hk).1;simpa using this),hid (by rw[HP.out n HR0.out,List.map_take];exact hown')⟩
   case measure=>simp[RowKit.intOf];omega
  rw[decide_eq_false hd] at hz;have hr0:(n++((⟨#[58]⟩:ByteArray)++d)).data.toList=refT (n,d):=by rw[port_app];unfold refT;rw[if_neg hd]
  have HR0:=hid hr0;have hadd3:∀ w,(Op.stringOp .add ⟨#[58]⟩ d).run Tryz.prog w=.ok (.string (⟨#[58]⟩++d)) w:=fun w=>run_string_add_sum w _ _ (by show 1+_<=_;omega)
  have hadd4:∀ w,(Op.stringOp .add n (⟨#[58]⟩++d)).run Tryz.prog w=.ok (.string (n++(⟨#[58]⟩++d))) w:=fun w=>run_string_add_sum w _ _ (by rw[ByteArray.size_append];show _+(1+_)<=_;omega)
  clear hr0 hd;go_wp2_with (at_builtin;refine wpList_append_own _ rfl _ _ 43 rfl (w.heap.size+1) 9 i0 _ 1 16 Tryz.underlying43 hi hz0 hz1 hz2 rfl (by decide) _ _ _ rfl (own_ext' hown.out (hxb.alloc _)) ⟨wr.heap.size+1,0,none⟩ 1 1 [.string (n++(⟨#[58]⟩++d))] rfl rfl ?d1 ?d2 ?d3 ?d4 ?d5 ?_)
  case d2=>rfl
  case d3=>unfold maxLen;omega
  case d4=>omega
  case d5=>have:=(hx.trans hxb).size;simp at this ⊢;omega
  intro v' w2 hown' hgrow _;go_wp2
  go_roundw
  case rel=>exact⟨k+1,_,by omega,rfl,by go_num,((hx.trans hxb).alloc (.cells #[.string (n++(⟨#[58]⟩++d))] 9)).grown hgrow (by have:=(hx.trans hxb).size;simp at this ⊢;omega) (fun k hk=>by have:=(hown.out.lt k hk).1;simpa using this),hid (by rw[HP.out _ HR0.out,List.map_take];exact hown')⟩
  case measure=>simp[RowKit.intOf];omega
 have hkn:k=rs.length:=by have:=HN.out;omega
 have hown':=hown.out;rw[hkn,List.take_length] at hown';have hsep:(⟨#[32]⟩++ar++⟨#[32]⟩:ByteArray).data.toList=32::(ar.data.toList++[32]):=by simp[ByteArray.data_append]
 have hjn:=fun w1 (x:Ext wr w1)=>joinOwn (w.heap.size+1) v (rs.map refT) (⟨#[32]⟩++ar++⟨#[32]⟩) w1 (own_ext' (by rw[List.length_map];exact hown') x) (by rw[List.length_map];have:=HN.out;omega) (by rw[hsep];have:=HLEN.out;omega)
 rw[hsep,<- HJ.out] at hjn;have hst:∀ w1,Ext wr w1->w1.cell? ⟨b,2,none⟩=some (.string ar)/\w1.cell? ⟨w.heap.size,3,none⟩=some (.slice a A ac):=fun w1 x=>⟨HWC.out _ ((HX.out.trans hx).trans x),(HCL.out _ (hx.trans x)).2.2.2.1⟩
 have HJN:=hid hjn;have HS:=hid hst;have HXX:Hid (Ext w wr):=hid (HX.out.trans hx);have HSB:Hid (wr.heap[w.heap.size]? = some (.cells #[.int .i64 kd,.string nm,.slice r N rc,.slice a A ac,.slice b' C bc] 67 (0,0))):=hid ((hx.block w.heap.size (by simp)).trans (heap_alloc_new w _));clear hjn hst hown' hown hkn hsep;have a2:=(HS.out _ (Ext.refl _)).1;have e3:=(HS.out _ (Ext.refl _)).2;go_wp2_with fail
 go_region_held3 (fun w'=>w'.cell? ⟨b,2,none⟩=some (.string ar)/\w'.cell? ⟨w.heap.size,3,none⟩=some (.slice a A ac))
  (first | exact⟨a2,e3⟩ | exact HS.out _ x1 | exact HS.out _ (x1.trans x2) | exact HS.out _ ((x1.trans x2).alloc _) | exact f2)
  (first
   | (go_at_call 133;refine(HJN.out _ (Ext.refl _).drew).mono ?_;rintro e w1 ⟨rfl,x1⟩;replace x1:Ext wr w1:=((Ext.refl _).drew).trans x1)
   | (go_at_call 239;refine(HT.out _ (HXX.out.trans x1)).mono ?_;rintro e w2 ⟨rfl,x2⟩)
   | (go_at_call 147;refine(HL.out _ ((HXX.out.trans x1).trans x2)).mono ?_;rintro e w3 ⟨rfl,h3,x3⟩;have f2:w3.cell? ⟨b,2,none⟩=some (.string ar)/\w3.cell? ⟨w.heap.size,3,none⟩=some (.slice a A ac):=(by
     have hb:=x3.blk ((((x1.trans x2).alloc (.cells #[.string J,.string T] 9)).block w.heap.size (Array.getElem?_eq_some_iff.1 HSB.out).1).trans HSB.out) (by have:=HBL.out;omega) (by decide)
     exact⟨h3.cells.1,by rw[Lib.cell_of_heap hb];rfl⟩)))
 go_wp2
 go_end0
 exact⟨rfl,h3,(Kp.of HB.out (((HXX.out.trans x1).trans x2).alloc _)).trans x3⟩
end Go.Proofs.YtjaeedbjknejdaaGreatDoor.Tr

namespace Go.Proofs.YtjaeedbjknejdaaGreatDoor.Tr
open Go.RowKit Go.Sort Go.Lib Go.Shelf Fx Lx
theorem writes_1 (w:World):Calls Tryz.prog 148 #[.int .i64 1] w fun e w'=>e=.returned (.func (.func 197) #[] #[])/\w'=w:=by
 go_enter Tryz.func148,Tryz.ntmps148;go_wp2;go_ret;exact⟨rfl,rfl⟩
theorem writes_2 (w:World):Calls Tryz.prog 148 #[.int .i64 2] w fun e w'=>e=.returned (.func (.func 198) #[] #[])/\w'=w:=by
 go_enter Tryz.func148,Tryz.ntmps148;go_wp2;go_ret;exact⟨rfl,rfl⟩
theorem writes_3 (w:World):Calls Tryz.prog 148 #[.int .i64 3] w fun e w'=>e=.returned (.func (.func 199) #[] #[])/\w'=w:=by
 go_enter Tryz.func148,Tryz.ntmps148;go_wp2;go_ret;exact⟨rfl,rfl⟩
theorem writes_4 (w:World):Calls Tryz.prog 148 #[.int .i64 4] w fun e w'=>e=.returned (.func (.func 200) #[] #[])/\w'=w:=by
 go_enter Tryz.func148,Tryz.ntmps148;go_wp2;go_ret;exact⟨rfl,rfl⟩
theorem writes_5 (w:World):Calls Tryz.prog 148 #[.int .i64 5] w fun e w'=>e=.returned (.func (.func 201) #[] #[])/\w'=w:=by
 go_enter Tryz.func148,Tryz.ntmps148;go_wp2;go_ret;exact⟨rfl,rfl⟩
theorem Wr.lev {B b:Nat}{ar:ByteArray}{lev:Int}{l:List UInt8}{w:World}(h:Wr B b ar lev l w)(q:Int):Wr B b ar q l (w.setCell ⟨b,3,none⟩ (.int .i64 q)):=h.imp (fun h=>h.level q) (fun h=>h.level q)
theorem Kp.lev {B b:Nat}{w:World}(hB:B<=b)(v:Value):Kp B b w (w.setCell ⟨b,3,none⟩ v) :=
 ⟨(Below.refl B w).setCell (p:=⟨b,3,none⟩) hB v,(Lib.OthersKept.refl _ _ w).setCell ⟨b,3,none⟩ rfl v⟩
theorem Wr.le {B b:Nat}{ar:ByteArray}{lev:Int}{l:List UInt8}{w:World}(h:Wr B b ar lev l w):B<=b:=by rcases h with h | h <;> exact h.1
theorem formB_parts (k:Int)(nm:ByteArray)(rs al:List Two)(body:List Stm)(h:formB (.mk k nm rs al body)=true):k=1\/k=2\/k=3\/(k=4/\∃ q,al=[q])\/k=5:=by
 by_cases h1:k=1
 ·exact .inl h1
 by_cases h2:k=2
 ·exact .inr (.inl h2)
 by_cases h3:k=3
 ·exact .inr (.inr (.inl h3))
 by_cases h4:k=4
 ·refine .inr (.inr (.inr (.inl ⟨h4,?_⟩)));rw[formB_mk,if_neg h1,if_neg h2,if_neg h3,if_pos h4,Bool.and_eq_true] at h;have hs:=h.2
  match al,hs with
  | [q],_=>exact⟨q,rfl⟩
 by_cases h5:k=5
 ·exact .inr (.inr (.inr (.inr h5)))
 rw[formB_mk,if_neg h1,if_neg h2,if_neg h3,if_neg h4,if_neg h5] at h;cases h
def blockT (d:Bool)(lev:Nat)(head:List UInt8)(L:List Stm):List UInt8:=indT lev++(head++[32,123])++[10]++printL d (lev+1) L++indT lev++[125]++[10]
def StmW (B b:Nat)(ar:ByteArray)(d:Bool)(lev:Nat)(l:List UInt8)(F:Nat)(x:Stm)(agg:Value)(w:World):Prop :=
 Calls Tryz.prog F #[.pointer (some ⟨b,0,none⟩),agg] w fun e w'=>e=.returned (.tuple #[])/\Wr B b ar lev (l++printS d lev x) w'/\Kp B b w w'
theorem printL_take (d:Bool)(lev:Nat)(L:List Stm)(k:Nat)(h:k < L.length):printL d lev (L.take (k+1))=printL d lev (L.take k)++printS d lev L[k]:=by
 rw[List.take_succ_eq_append_getElem h,printL_snoc]
theorem printL_app (d:Bool)(lev:Nat):∀ L M:List Stm,printL d lev (L++M)=printL d lev L++printL d lev M
 | [],M=>by rw[printL_nil];rfl
 | x::r,M=>by rw[List.cons_append,printL_cons,printL_cons,printL_app d lev r M,List.append_assoc]
theorem printL_le (d:Bool)(lev:Nat)(L:List Stm)(k:Nat):(printL d lev (L.take k)).length<=(printL d lev L).length:=by
 have h:=printL_app d lev (L.take k) (L.drop k);rw[List.take_append_drop] at h;rw[h,List.length_append];omega
theorem printS_mk (d:Bool)(lev:Nat)(k:Int)(n:ByteArray)(r a:List Two)(bd:List Stm):printS d lev (.mk k n r a bd) =
  if k=1 then indT lev++n.data.toList++tailT a++[10]
  else if k=2 then indT lev++sepT (arrow d) (r.map refT)++tailT a++[10]
  else if k=3 then indT lev++n.data.toList++[32]++listedT a++[59,10]
  else if k=4 then indT lev++[115,101,116,32]++n.data.toList++[32,61,32]++valueT (a.headD (⟨#[]⟩,⟨#[]⟩)).2++[59,10]
  else indT lev++[99,108,117,115,116,101,114,32]++n.data.toList++[32,123,10]++printL d (lev+1) bd++indT lev++[125,10]:=by rw[printS]
theorem ind_len (k:Nat):(indT k).length=4 * k:=by unfold indT;rw[List.length_replicate]
section
variable (B b lev:Nat) (ar:ByteArray) (d:Bool) (l:List UInt8) (nm:ByteArray) (rs al:List Two) (body:List Stm) (r a b':Option Addr) (rc ac bc:Nat) (w:World)
structure WrQ : Prop where
 h:Wr B b ar lev l w
 hB:B<=w.heap.size
 he:Env w
 hr:TwoAt B w r rs
 ha:TwoAt B w a al
 hR:rs.length<=2000000
 hL:al.length<=2000000
 hs:∀ q ∈ al,q.2.size < 4294967281
 har:32::(ar.data.toList++[32])=arrow d
 har2:ar.size<=100
theorem stm_1 (q:WrQ B b lev ar d l rs al r a w)(hlen:l.length+(printS d lev (.mk 1 nm rs al body)).length+300<=140737488355328):
  StmW B b ar d lev l 197 (.mk 1 nm rs al body) (.agg #[.int .i64 1,.string nm,.slice r rs.length rc,.slice a al.length ac,.slice b' body.length bc]) w:=by
 unfold StmW;rw[printS_mk,if_pos rfl] at hlen ⊢;simp only[List.length_append,ind_len,<- size_len,List.length_cons,List.length_nil] at hlen;have h:=node_any B b lev ar l 1 nm rs.length body.length rc ac bc r a b' al w q.h q.hB q.he q.ha.in q.hL q.hs (by omega)
 simpa only[List.append_assoc] using h
theorem stm_2 (q:WrQ B b lev ar d l rs al r a w)(hlen:l.length+(printS d lev (.mk 2 nm rs al body)).length+300<=140737488355328):
  StmW B b ar d lev l 198 (.mk 2 nm rs al body) (.agg #[.int .i64 2,.string nm,.slice r rs.length rc,.slice a al.length ac,.slice b' body.length bc]) w:=by
 unfold StmW;rw[printS_mk,if_neg (by decide),if_pos rfl,<- q.har] at hlen ⊢;simp only[List.length_append,ind_len,List.length_cons,List.length_nil] at hlen;have h:=edge_any B b lev ar l 2 nm body.length rc ac bc r a b' rs al w q.h q.hB q.he q.ha.in q.hr.in q.hL q.hR q.hs q.har2 (by omega)
 simpa only[List.append_assoc] using h
theorem stm_3 (q:WrQ B b lev ar d l rs al r a w)(hlen:l.length+(printS d lev (.mk 3 nm rs al body)).length+300<=140737488355328):
  StmW B b ar d lev l 199 (.mk 3 nm rs al body) (.agg #[.int .i64 3,.string nm,.slice r rs.length rc,.slice a al.length ac,.slice b' body.length bc]) w:=by
 unfold StmW;rw[printS_mk,if_neg (by decide),if_neg (by decide),if_pos rfl] at hlen ⊢;simp only[List.length_append,ind_len,<- size_len,List.length_cons,List.length_nil] at hlen;have h:=defaults_any B b lev ar l 3 nm rs.length body.length rc ac bc r a b' al w q.h q.hB q.he q.ha.in q.hL q.hs (by omega)
 simpa only[List.append_assoc,List.cons_append,List.nil_append] using h
theorem stm_4 (p:Two)(q:WrQ B b lev ar d l rs [p] r a w)(hlen:l.length+(printS d lev (.mk 4 nm rs [p] body)).length+300<=140737488355328):
  StmW B b ar d lev l 200 (.mk 4 nm rs [p] body) (.agg #[.int .i64 4,.string nm,.slice r rs.length rc,.slice a [p].length ac,.slice b' body.length bc]) w:=by
 unfold StmW;rw[printS_mk,if_neg (by decide),if_neg (by decide),if_neg (by decide),if_pos rfl] at hlen ⊢;simp only[List.length_append,ind_len,<- size_len,List.length_cons,List.length_nil,List.headD_cons] at hlen;obtain⟨g,o,rfl,hg,-,h1⟩:=q.ha 0 (by simp);simp only[Nat.zero_mul,Nat.add_zero,List.getElem_cons_zero] at h1;have h:=set_any B b lev ar l 4 nm rs.length body.length rc ac bc g o r b' p.1 p.2 w q.h q.hB q.he hg h1 (q.hs p (by simp)) (by omega)
 simpa only[List.append_assoc,List.cons_append,List.nil_append,List.headD_cons,List.length_cons,List.length_nil] using h
end
end Go.Proofs.YtjaeedbjknejdaaGreatDoor.Tr

namespace Go.Proofs.YtjaeedbjknejdaaGreatDoor.Tr
open Go.RowKit Go.Sort Go.Lib Go.Shelf Fx Lx
theorem extKp {w0 w w':World}{b:Nat}(x:Ext w0 w)(k:Kp w0.heap.size b w w'):Ext w0 w':=Below.trans x k.1
theorem cluster_of (B b lev:Nat)(ar:ByteArray)(d:Bool)(l:List UInt8)(nm:ByteArray)(rs al:List Two)(body:List Stm)(r a b':Option Addr)(rc ac bc:Nat)(w:World)(hnm:nm.size<=140737488355328)
  (hB:B<=w.heap.size)
  (h:∀ w1,Ext w w1->Calls Tryz.prog 81 #[.pointer (some ⟨b,0,none⟩),.string (⟨#[99,108,117,115,116,101,114,32]⟩++nm),.slice b' body.length bc] w1 fun e w'=>e=.returned (.tuple #[])/\Wr B b ar lev (l++blockT d lev ([99,108,117,115,116,101,114,32]++nm.data.toList) body) w'/\Kp B b w1 w') :
  StmW B b ar d lev l 201 (.mk 5 nm rs al body) (.agg #[.int .i64 5,.string nm,.slice r rs.length rc,.slice a al.length ac,.slice b' body.length bc]) w:=by
 unfold StmW;rw[printS_mk,if_neg (by decide),if_neg (by decide),if_neg (by decide),if_neg (by decide)]
 have hbt:blockT d lev ([99,108,117,115,116,101,114,32]++nm.data.toList) body=indT lev++[99,108,117,115,116,101,114,32]++nm.data.toList++[32,123,10]++printL d (lev+1) body++indT lev++[125,10]:=by
  unfold blockT;simp only[List.append_assoc,List.cons_append,List.nil_append]
 rw[<-hbt];have hx0:Ext w (w.alloc (.cells #[.int .i64 5,.string nm,.slice r rs.length rc,.slice a al.length ac,.slice b' body.length bc] 67)):=(Ext.refl _).alloc _;have hadd:∀ w,(Op.stringOp .add ⟨#[99,108,117,115,116,101,114,32]⟩ nm).run Tryz.prog w=.ok (.string (⟨#[99,108,117,115,116,101,114,32]⟩++nm)) w:=fun w=>run_string_add_sum w _ _ (by show 8+_<=_;omega)
 have H:=hid (h _ hx0);have HB:=hid hB;clear h hbt;have HX:=hid hx0;clear hx0;generalize rs.length=R at *;generalize al.length=A at *;generalize body.length=C at *;go_enter Tryz.func201,Tryz.ntmps201;go_wp2_with (go_at_call 81;refine H.out.mono ?_;rintro e w1 ⟨rfl,h1,x1⟩)
 go_end0
 exact⟨rfl,h1,(Kp.of HB.out HX.out).trans x1⟩
theorem block_any (w0:World)(he:Env w0)(b:Nat)(ar:ByteArray)(d:Bool)(har:32::(ar.data.toList++[32])=arrow d)(har2:ar.size<=100):∀ (M:Nat) (L:List Stm) (sb:Option Addr) (cap lev:Nat) (l:List UInt8) (head:ByteArray) (w:World),sizeL L<=M->M<=1048576->lev+M<=2000000->Formed L->StmsAt w0.heap.size w sb L->Ext w0 w->Wr w0.heap.size b ar lev l w ->
  l.length+(blockT d lev head.data.toList L).length+300<=140737488355328 ->
  Calls Tryz.prog 81 #[.pointer (some ⟨b,0,none⟩),.string head,.slice sb L.length cap] w fun e w'=>e=.returned (.tuple #[])/\Wr w0.heap.size b ar lev (l++blockT d lev head.data.toList L) w'/\Kp w0.heap.size b w w':=by
 intro M
 induction M using Nat.strongRecOn with
 | _ M ih =>
 intro L sb cap lev l head w hM hM2 hlev hfm hst x0 hwr hlen;obtain⟨H0,hH0⟩:∃ H0,H0=l++indT lev++(head.data.toList++[32,123])++[10]:=⟨_,rfl⟩
 have hall:l++blockT d lev head.data.toList L=H0++printL d (lev+1) L++indT lev++[125]++[10]:=by
  rw[hH0];unfold blockT;simp only[List.append_assoc]
 have hlen2:H0.length+(printL d (lev+1) L).length+4 * lev+2+300<=140737488355328:=by
  have h:=congrArg List.length hall;simp only[List.length_append,ind_len,List.length_cons,List.length_nil] at h hlen;omega
 have hhd:l.length+4 * lev+head.size+3<=H0.length:=by rw[hH0];simp only[List.length_append,ind_len,List.length_cons,List.length_nil,<- size_len];omega
 rw[hall];have hbl:=hwr.lt;have hc1:catT [head,⟨#[32,123]⟩]=head.data.toList++[32,123]:=by simp[catT]
 have hl1:=line_any w0.heap.size b lev w.heap.size ar l [head,⟨#[32,123]⟩] (w.alloc (.cells #[.string head,.string ⟨#[32,123]⟩] 9)) (hwr.ext ((Ext.refl _).alloc _)) (heap_alloc_new w _) (by omega) (by have:=x0.size;simp;omega) (by simp) (by rw[hc1,List.length_append,<- size_len];simp only[List.length_cons,List.length_nil];omega);rw[hc1,<- hH0] at hl1
 have hl2:∀ (w1:World) (g:Nat),g=w1.heap.size->Ext w0 w1->Wr w0.heap.size b ar lev (H0++printL d (lev+1) L) w1 ->
   Calls Tryz.prog 147 #[.pointer (some ⟨b,0,none⟩),.slice (some ⟨g,0,none⟩) 1 1] (w1.alloc (.cells #[.string ⟨#[125]⟩] 9)) fun e w'=>e=.returned (.tuple #[])/\Wr w0.heap.size b ar lev (H0++printL d (lev+1) L++indT lev++[125]++[10]) w'/\Kp w0.heap.size b (w1.alloc (.cells #[.string ⟨#[125]⟩] 9)) w':=fun w1 g e x h=>by
  subst e;exact line_any w0.heap.size b lev w1.heap.size ar (H0++printL d (lev+1) L) [⟨#[125]⟩] (w1.alloc (.cells #[.string ⟨#[125]⟩] 9)) (h.ext ((Ext.refl _).alloc _)) (heap_alloc_new w1 _) (by have:=h.lt;omega) (by have:=x.size;simp;omega) (by simp) (by rw[List.length_append];show _+4 * lev+1+1<=_;omega)
 have hBb:=hwr.le;obtain⟨N,hN⟩:∃ N,N=L.length:=⟨_,rfl⟩;have hN2:N<=1048576:=by have:=sizeL_len L;omega
 rw[<-hN];have HN:=hid hN;have HL1:=hid hl1;have HL2:=hid hl2;have HX0:=hid x0;have HST:=hid hst;have HFM:=hid hfm;have HLEN:=hid hlen2;have HIH:=hid ih;have HM:=hid hM;have HM2:=hid hM2;have HLV:=hid hlev;have HBB:=hid hBb;have HE:=hid he;have HAR:=hid har;have HBL:=hid hbl;have HKA:Hid (Kp w0.heap.size b w (w.alloc (.cells #[.string head,.string ⟨#[32,123]⟩] 9))):=hid (Kp.of x0.size ((Ext.refl _).alloc _));have hlv:lev<=2000000:=by omega
 clear hN hl1 hl2 x0 hst hfm hlen hlen2 ih hM hM2 hlev hwr hall hhd hc1 hH0 hBb he har hbl;go_enter Tryz.func81,Tryz.ntmps81;go_wp2_with (go_at_call 147;refine HL1.out.mono ?_;rintro e w1 ⟨rfl,h1,x1⟩;have q3:=h1.cells.2.1;have q4:=h1.cells.2.2;replace h1:=hid h1)
 go_loopw [21] (fun i' wr=>∃ k:Nat,k<=N/\i'=.int .i64 k/\Hid (Wr w0.heap.size b ar ((lev+1:Nat):Int) (H0++printL d (lev+1) (L.take k)) wr)/\Kp w0.heap.size b w wr) (fun i' _=>N - (RowKit.intOf i').toNat)
 case atStart =>
  refine⟨0,by omega,rfl,hid ?_,(HKA.out.trans x1).trans (Kp.lev HBB.out _)⟩;rw[List.take_zero,printL_nil,List.append_nil];have:=h1.out.lev ((lev+1:Nat):Int)
  push_cast at this ⊢
  exact this
 obtain⟨k,hk,rfl,hw,hx⟩:=hrel;by_cases hlt:k < N
 ·have hkl:k < L.length:=by rw[<-HN.out];exact hlt
  have hin:=StmsAt.below hx.1 L HST.out;obtain⟨g,o,rfl,hg,hst⟩:=StmsAt.at L hin k hkl;have hsz:sizeS L[k]<=M:=Nat.le_trans (sizeL_at L k hkl) HM.out;have hfk:=HFM.out.at k hkl;have hsub:=flat_sub 0 L k hkl;have hsub2:=fun lev=>flat_sub lev L k hkl
  have hpt:=printL_take d (lev+1) L k hkl;have hple:=printL_le d (lev+1) L (k+1);obtain⟨s,hs⟩:∃ s,s=L[k]:=⟨_,rfl⟩;rw[<-hs] at hst hsz hfk hpt hsub2;rw[hpt,List.length_append] at hple;clear hs hin hsub;obtain⟨kind,nm,rs,al,body⟩:=s;have hbd:=sizeS_body (.mk kind nm rs al body);simp only[Stm.kind,Stm.body,Stm.name,Stm.refs,Stm.attrs] at hbd hsub2;rw[StmAt] at hst;obtain⟨r,rc,a,ac,b',bc,c0,c1,c2,c3,c4,hr,ha,hbs,hl1',hl2,hl3,hl4,hl5⟩:=hst;have hxa:Ext wr (wr.alloc (.cells #[.int .i64 kind,.string nm,.slice r rs.length rc,.slice a al.length ac,.slice b' body.length bc] 67)):=(Ext.refl _).alloc _;have xw:Ext w0 wr:=extKp HX0.out hx
  have hq:∀ w1,Ext wr w1->WrQ w0.heap.size b (lev+1) ar d (H0++printL d (lev+1) (L.take k)) rs al r a w1:=fun w1 x=>⟨hw.out.ext x,(xw.trans x).size,HE.out.ext (xw.trans x),hr.below (x.mono xw.size),ha.below (x.mono xw.size),by have:=sizeTwo_len rs;have:=HM2.out;omega,by have:=sizeTwo_len al;have:=HM2.out;omega,fun q hq=>by have:=sizeTwo_at al q hq;have:=HM2.out;omega,HAR.out,har2⟩
  have hln:(H0++printL d (lev+1) (L.take k)).length+(printS d (lev+1) (.mk kind nm rs al body)).length+300<=140737488355328:=by
   have:=HLEN.out;rw[List.length_append];omega
  have S0:=stm_cells wr kind nm r a b' rs.length al.length body.length rc ac bc _ (Ext.refl _);have HNE:Hid (wr.heap.size ≠ b):=hid (by have:=HBL.out;have:=hw.out.lt;omega);have HPT:=hid hpt;have hkd:=formB_parts kind nm rs al body hfk;have HXW:Hid (w0.heap.size<=wr.heap.size):=hid xw.size;rcases hkd with rfl | rfl | rfl | ⟨rfl,p,rfl⟩ | rfl
  ·have hw1:=fun w1 (x:Ext _ w1)=>stm_1 w0.heap.size b (lev+1) ar d (H0++printL d (lev+1) (L.take k)) nm rs al body r a b' rc ac bc w1 (hq w1 (hxa.trans x)) hln
   unfold StmW at hw1;have HW:=hid hw1;clear hw1 hq hln hr ha hbs hl1' hl2 hl3 hl4 hl5 hbd hsz hfk hsub2 hpt hple xw hxa hw;generalize al.length=A at *;generalize rs.length=R at *;generalize body.length=C at *;go_wp2_with fail
   go_region_held3 (fun w'=>w'.cell? ⟨wr.heap.size,0,none⟩=some (.int .i64 1)/\w'.cell? ⟨wr.heap.size,1,none⟩=some (.string nm)/\w'.cell? ⟨wr.heap.size,2,none⟩=some (.slice r R rc)/\w'.cell? ⟨wr.heap.size,3,none⟩=some (.slice a A ac)/\w'.cell? ⟨wr.heap.size,4,none⟩=some (.slice b' C bc))
    (first | exact S0 | exact f2)
    (first
     | (go_at_call 148;refine(writes_1 _).mono ?_;rintro e w1 ⟨rfl,rfl⟩)
     | (go_at_call 197;refine(HW.out _ (Ext.refl _).drew).mono ?_;rintro e w2 ⟨rfl,h2,x2⟩;have f2:w2.cell? ⟨wr.heap.size,0,none⟩=some (.int .i64 1)/\w2.cell? ⟨wr.heap.size,1,none⟩=some (.string nm)/\w2.cell? ⟨wr.heap.size,2,none⟩=some (.slice r R rc)/\w2.cell? ⟨wr.heap.size,3,none⟩=some (.slice a A ac)/\w2.cell? ⟨wr.heap.size,4,none⟩=some (.slice b' C bc):=(by
       have hb:=x2.blk (heap_alloc_new wr (.cells #[.int .i64 1,.string nm,.slice r R rc,.slice a A ac,.slice b' C bc] 67)) HNE.out (by decide)
       refine⟨?_,?_,?_,?_,?_⟩ <;> rw[Lib.cell_of_heap hb] <;> rfl)))
   go_wp2
   go_roundw
   case rel=>exact⟨k+1,by omega,by go_num,hid (by rw[HPT.out,<- List.append_assoc];exact h2),hx.trans ((Kp.of HXW.out (((Ext.refl _).alloc _).drew)).trans x2)⟩
   case measure=>simp[RowKit.intOf];omega
  ·have hw1:=fun w1 (x:Ext _ w1)=>stm_2 w0.heap.size b (lev+1) ar d (H0++printL d (lev+1) (L.take k)) nm rs al body r a b' rc ac bc w1 (hq w1 (hxa.trans x)) hln
   unfold StmW at hw1;have HW:=hid hw1;clear hw1 hq hln hr ha hbs hl1' hl2 hl3 hl4 hl5 hbd hsz hfk hsub2 hpt hple xw hxa hw;generalize al.length=A at *;generalize rs.length=R at *;generalize body.length=C at *;go_wp2_with fail
   go_region_held3 (fun w'=>w'.cell? ⟨wr.heap.size,0,none⟩=some (.int .i64 2)/\w'.cell? ⟨wr.heap.size,1,none⟩=some (.string nm)/\w'.cell? ⟨wr.heap.size,2,none⟩=some (.slice r R rc)/\w'.cell? ⟨wr.heap.size,3,none⟩=some (.slice a A ac)/\w'.cell? ⟨wr.heap.size,4,none⟩=some (.slice b' C bc))
    (first | exact S0 | exact f2)
    (first
     | (go_at_call 148;refine(writes_2 _).mono ?_;rintro e w1 ⟨rfl,rfl⟩)
     | (go_at_call 198;refine(HW.out _ (Ext.refl _).drew).mono ?_;rintro e w2 ⟨rfl,h2,x2⟩;have f2:w2.cell? ⟨wr.heap.size,0,none⟩=some (.int .i64 2)/\w2.cell? ⟨wr.heap.size,1,none⟩=some (.string nm)/\w2.cell? ⟨wr.heap.size,2,none⟩=some (.slice r R rc)/\w2.cell? ⟨wr.heap.size,3,none⟩=some (.slice a A ac)/\w2.cell? ⟨wr.heap.size,4,none⟩=some (.slice b' C bc):=(by
       have hb:=x2.blk (heap_alloc_new wr (.cells #[.int .i64 2,.string nm,.slice r R rc,.slice a A ac,.slice b' C bc] 67)) HNE.out (by decide)
       refine⟨?_,?_,?_,?_,?_⟩ <;> rw[Lib.cell_of_heap hb] <;> rfl)))
   go_wp2
   go_roundw
   case rel=>exact⟨k+1,by omega,by go_num,hid (by rw[HPT.out,<- List.append_assoc];exact h2),hx.trans ((Kp.of HXW.out (((Ext.refl _).alloc _).drew)).trans x2)⟩
   case measure=>simp[RowKit.intOf];omega
  ·have hw1:=fun w1 (x:Ext _ w1)=>stm_3 w0.heap.size b (lev+1) ar d (H0++printL d (lev+1) (L.take k)) nm rs al body r a b' rc ac bc w1 (hq w1 (hxa.trans x)) hln
   unfold StmW at hw1;have HW:=hid hw1;clear hw1 hq hln hr ha hbs hl1' hl2 hl3 hl4 hl5 hbd hsz hfk hsub2 hpt hple xw hxa hw;generalize al.length=A at *;generalize rs.length=R at *;generalize body.length=C at *;go_wp2_with fail
   go_region_held3 (fun w'=>w'.cell? ⟨wr.heap.size,0,none⟩=some (.int .i64 3)/\w'.cell? ⟨wr.heap.size,1,none⟩=some (.string nm)/\w'.cell? ⟨wr.heap.size,2,none⟩=some (.slice r R rc)/\w'.cell? ⟨wr.heap.size,3,none⟩=some (.slice a A ac)/\w'.cell? ⟨wr.heap.size,4,none⟩=some (.slice b' C bc))
    (first | exact S0 | exact f2)
    (first
     | (go_at_call 148;refine(writes_3 _).mono ?_;rintro e w1 ⟨rfl,rfl⟩)
     | (go_at_call 199;refine(HW.out _ (Ext.refl _).drew).mono ?_;rintro e w2 ⟨rfl,h2,x2⟩;have f2:w2.cell? ⟨wr.heap.size,0,none⟩=some (.int .i64 3)/\w2.cell? ⟨wr.heap.size,1,none⟩=some (.string nm)/\w2.cell? ⟨wr.heap.size,2,none⟩=some (.slice r R rc)/\w2.cell? ⟨wr.heap.size,3,none⟩=some (.slice a A ac)/\w2.cell? ⟨wr.heap.size,4,none⟩=some (.slice b' C bc):=(by
       have hb:=x2.blk (heap_alloc_new wr (.cells #[.int .i64 3,.string nm,.slice r R rc,.slice a A ac,.slice b' C bc] 67)) HNE.out (by decide)
       refine⟨?_,?_,?_,?_,?_⟩ <;> rw[Lib.cell_of_heap hb] <;> rfl)))
   go_wp2
   go_roundw
   case rel=>exact⟨k+1,by omega,by go_num,hid (by rw[HPT.out,<- List.append_assoc];exact h2),hx.trans ((Kp.of HXW.out (((Ext.refl _).alloc _).drew)).trans x2)⟩
   case measure=>simp[RowKit.intOf];omega
  ·have hw1:=fun w1 (x:Ext _ w1)=>stm_4 w0.heap.size b (lev+1) ar d (H0++printL d (lev+1) (L.take k)) nm rs body r a b' rc ac bc w1 p (hq w1 (hxa.trans x)) hln
   unfold StmW at hw1;have HW:=hid hw1;clear hw1 hq hln hr ha hbs hl1' hl2 hl3 hl4 hl5 hbd hsz hfk hsub2 hpt hple xw hxa hw;generalize [p].length=A at *;generalize rs.length=R at *;generalize body.length=C at *;go_wp2_with fail
   go_region_held3 (fun w'=>w'.cell? ⟨wr.heap.size,0,none⟩=some (.int .i64 4)/\w'.cell? ⟨wr.heap.size,1,none⟩=some (.string nm)/\w'.cell? ⟨wr.heap.size,2,none⟩=some (.slice r R rc)/\w'.cell? ⟨wr.heap.size,3,none⟩=some (.slice a A ac)/\w'.cell? ⟨wr.heap.size,4,none⟩=some (.slice b' C bc))
    (first | exact S0 | exact f2)
    (first
     | (go_at_call 148;refine(writes_4 _).mono ?_;rintro e w1 ⟨rfl,rfl⟩)
     | (go_at_call 200;refine(HW.out _ (Ext.refl _).drew).mono ?_;rintro e w2 ⟨rfl,h2,x2⟩;have f2:w2.cell? ⟨wr.heap.size,0,none⟩=some (.int .i64 4)/\w2.cell? ⟨wr.heap.size,1,none⟩=some (.string nm)/\w2.cell? ⟨wr.heap.size,2,none⟩=some (.slice r R rc)/\w2.cell? ⟨wr.heap.size,3,none⟩=some (.slice a A ac)/\w2.cell? ⟨wr.heap.size,4,none⟩=some (.slice b' C bc):=(by
       have hb:=x2.blk (heap_alloc_new wr (.cells #[.int .i64 4,.string nm,.slice r R rc,.slice a A ac,.slice b' C bc] 67)) HNE.out (by decide)
       refine⟨?_,?_,?_,?_,?_⟩ <;> rw[Lib.cell_of_heap hb] <;> rfl)))
   go_wp2
   go_roundw
   case rel=>exact⟨k+1,by omega,by go_num,hid (by rw[HPT.out,<- List.append_assoc];exact h2),hx.trans ((Kp.of HXW.out (((Ext.refl _).alloc _).drew)).trans x2)⟩
   case measure=>simp[RowKit.intOf];omega
  have hw1:=fun w1 (x:Ext _ w1)=>cluster_of w0.heap.size b (lev+1) ar d (H0++printL d (lev+1) (L.take k)) nm rs al body r a b' rc ac bc w1 (by have:=HM2.out;omega) ((xw.trans (hxa.trans x)).size) (fun w2 x2=>by
    have hdd:(⟨#[99,108,117,115,116,101,114,32]⟩++nm:ByteArray).data.toList=[99,108,117,115,116,101,114,32]++nm.data.toList:=by simp[ByteArray.data_append]
    have x3:=(hxa.trans x).trans x2
    have h:=HIH.out (sizeL body) (by omega) body b' bc (lev+1) (H0++printL d (lev+1) (L.take k)) (⟨#[99,108,117,115,116,101,114,32]⟩++nm) w2 (Nat.le_refl _) (by have:=HM2.out;omega) (by have:=HLV.out;omega) (formed_of HFM.out (hsub2 0)) (StmsAt.below (x3.mono xw.size) body hbs) (xw.trans x3) (hw.out.ext x3) (by
     rw[hdd];rw[printS_mk,if_neg (by decide),if_neg (by decide),if_neg (by decide),if_neg (by decide)] at hln;unfold blockT;simp only[List.length_append,List.length_cons,List.length_nil] at hln ⊢
     omega)
    rw[hdd] at h
    exact h)
  unfold StmW at hw1;have HW:=hid hw1;clear hw1 hq hln hr ha hbs hl1' hl2 hl3 hl4 hl5 hbd hsz hfk hsub2 hpt hple xw hxa hw;generalize al.length=A at *;generalize rs.length=R at *;generalize body.length=C at *;go_wp2_with fail
  go_region_held3 (fun w'=>w'.cell? ⟨wr.heap.size,0,none⟩=some (.int .i64 5)/\w'.cell? ⟨wr.heap.size,1,none⟩=some (.string nm)/\w'.cell? ⟨wr.heap.size,2,none⟩=some (.slice r R rc)/\w'.cell? ⟨wr.heap.size,3,none⟩=some (.slice a A ac)/\w'.cell? ⟨wr.heap.size,4,none⟩=some (.slice b' C bc))
   (first | exact S0 | exact f2)
   (first
    | (go_at_call 148;refine(writes_5 _).mono ?_;rintro e w1 ⟨rfl,rfl⟩)
    | (go_at_call 201;refine(HW.out _ (Ext.refl _).drew).mono ?_;rintro e w2 ⟨rfl,h2,x2⟩;have f2:w2.cell? ⟨wr.heap.size,0,none⟩=some (.int .i64 5)/\w2.cell? ⟨wr.heap.size,1,none⟩=some (.string nm)/\w2.cell? ⟨wr.heap.size,2,none⟩=some (.slice r R rc)/\w2.cell? ⟨wr.heap.size,3,none⟩=some (.slice a A ac)/\w2.cell? ⟨wr.heap.size,4,none⟩=some (.slice b' C bc):=(by
      have hb:=x2.blk (heap_alloc_new wr (.cells #[.int .i64 5,.string nm,.slice r R rc,.slice a A ac,.slice b' C bc] 67)) HNE.out (by decide)
      refine⟨?_,?_,?_,?_,?_⟩ <;> rw[Lib.cell_of_heap hb] <;> rfl)))
  go_wp2
  go_roundw
  case rel=>exact⟨k+1,by omega,by go_num,hid (by rw[HPT.out,<- List.append_assoc];exact h2),hx.trans ((Kp.of HXW.out (((Ext.refl _).alloc _).drew)).trans x2)⟩
  case measure=>simp[RowKit.intOf];omega
 have hkn:k=L.length:=by have:=HN.out;omega
 have h1:=hw.out;rw[hkn,List.take_length] at h1;have h2:=h1.lev (lev:Int);have c3:wr.cell? ⟨b,3,none⟩=some (.int .i64 ((lev:Int)+1)):=by have:=h1.cells.2.1;push_cast at this;exact this
 have c4:=h1.cells.2.2;have hl:=HL2.out _ wr.heap.size (by simp[World.setCell]) (Below.trans (extKp HX0.out hx) ((Below.refl _ wr).setCell (p:=⟨b,3,none⟩) HBB.out (.int .i64 lev))) h2;have HL:=hid hl;have HXW:Hid (w0.heap.size<=wr.heap.size):=hid (extKp HX0.out hx).size;clear hl h1 h2 hkn hw;go_wp2_with (go_at_call 147;refine HL.out.mono ?_;rintro e w2 ⟨rfl,h3,x3⟩);go_returns;exact⟨rfl,h3,((hx.trans (Kp.lev HBB.out _)).trans (Kp.of (by simpa [World.setCell] using HXW.out) ((Ext.refl _).alloc _))).trans x3⟩
end Go.Proofs.YtjaeedbjknejdaaGreatDoor.Tr

namespace Go.Proofs.YtjaeedbjknejdaaGreatDoor.Tr
open Go.RowKit Go.Sort Go.Lib Go.Shelf Fx Lx
theorem strOf_any (B b:Nat)(ar:ByteArray)(lev:Int)(l:List UInt8)(w:World)(h:Wr B b ar lev l w)(h0:l ≠ []):
  Calls Tryz.prog 82 #[.pointer (some ⟨b,0,none⟩)] w fun e w'=>e=.returned (.string ⟨l.toArray⟩)/\Below B w w':=by
 obtain⟨p,hAt⟩:∃ p,WrAt B b p ar lev (Lib.byteCells l) w:=by
  rcases h with h | h
  ·exact⟨_,h⟩
  exact⟨_,h⟩
 obtain⟨hB,v,hbk,hown,hne⟩:=hAt;have hl0:l.length ≠ 0:=by simpa using h0
 rw[Lib.byteCells_length] at hown
 obtain⟨g,cap,cur,fz,rfl,hbg,hg,hfz,hnc,hcm,hcs,htake⟩:∃ g cap cur fz,v=.slice (some ⟨g,0,none⟩) l.length cap/\B<=g/\w.heap[g]? = some (.cells cur 5 fz)/\fz.2<=l.length * 1/\l.length<=cap/\cap<=maxLen/\cur.size=cap * 1/\cur.toList.take (l.length * 1)=Lib.byteCells l:=by
  rcases hown.2 with⟨_,hz⟩ | ⟨g,cap,cur,fz,hv,r⟩
  ·exact absurd hz hl0
  exact⟨g,cap,cur,fz,hv,r⟩
 have c1:w.drew.cell? ⟨b,1,none⟩=some (.slice (some ⟨g,0,none⟩) l.length cap):=by
  have:w.drew.heap[b]? = some (.cells #[p,.slice (some ⟨g,0,none⟩) l.length cap,.string ar,.int .i64 lev] 152 (0,0)):=hbk;rw[Lib.cell_of_heap this];rfl
 have hSD:(Builtin.unsafeSliceData_ #[148] 211 #[.slice (some ⟨g,0,none⟩) l.length cap]).run Tryz.prog w.drew=.ok (.pointer (some ⟨g,0,none⟩)) w.drew :=
  Lib.run_unsafeSliceData_row _ _ _ _ _ _ (by omega)
 have hUS:(Builtin.unsafeString_ #[211,3] 9 #[.pointer (some ⟨g,0,none⟩),.int .i64 l.length]).run Tryz.prog w.drew=.ok (.string ⟨l.toArray⟩) (w.drew.freeze ⟨g,0,none⟩ l.length):=by
  refine Lib.run_unsafeString_row w.drew 211 3 9 5 Tryz.underlying211 Tryz.Builder_Extra_169.cellsByte g cur.size (by have hg':w.drew.heap[g]? = some (.cells cur 5 fz):=hg;simp[World.shape?,hg']) l h0 (by omega) (by unfold maxLen at hcm;omega) ?_;intro j x hx;have:=hown.cells (g:=g) rfl j (.int .u8 x.toNat) (by simp[Lib.byteCells,hx]);exact this
 have mixed:Tryz.prog.follows Departure.mixedOrders=true:=by kernel_rfl
 go_enter Tryz.func82,Tryz.ntmps82;go_wp2
 go_region_o
 all_goals (go_wp2;go_ret;exact⟨rfl,Lib.below_freeze (Below.drew (Below.refl B w)) (p:=⟨g,0,none⟩) hbg _⟩)
end Go.Proofs.YtjaeedbjknejdaaGreatDoor.Tr

namespace Go.Proofs.YtjaeedbjknejdaaGreatDoor.Tr
open Go.RowKit Go.Sort Go.Lib Go.Shelf Fx Lx
theorem wr_new (w w1:World)(x:Ext w w1):Wr w.heap.size w1.heap.size ⟨#[45,45]⟩ 0 [] (w1.alloc (.cells #[.pointer none,.slice none 0 0,.string ⟨#[45,45]⟩,.int .i64 0] 152)) :=
 .inl ⟨x.size,_,heap_alloc_new w1 _,World.ownsRowF_nil _ _ _ _,by simp[Value.ownBlock]⟩
theorem wr_new2 (w w1:World)(x:Ext w w1):Wr w.heap.size w1.heap.size ⟨#[45,62]⟩ 0 [] (w1.alloc (.cells #[.pointer none,.slice none 0 0,.string ⟨#[45,62]⟩,.int .i64 0] 152)) :=
 .inl ⟨x.size,_,heap_alloc_new w1 _,World.ownsRowF_nil _ _ _ _,by simp[Value.ownBlock]⟩
theorem print_true (nm:ByteArray)(b:Option Addr)(L:List Stm)(cap:Nat)(w:World)(he:Env w)(h:StmsAt w.heap.size w b L)(hs:sizeL L<=1048576)(hnm:nm.size<=1048576)(hlen:(printT true nm L).length+1000<=140737488355328)(hv:validE nm L=0):
  Calls Tryz.prog 37 #[.agg #[.string nm,.bool true,.slice b L.length cap]] w fun e w'=>e=.returned (.string ⟨(printT true nm L).toArray⟩)/\Ext w w':=by
 have hx0:Ext w (w.alloc (.cells #[.string nm,.bool true,.slice b L.length cap] 33)):=(Ext.refl _).alloc _;have hval:=fun w' (x:Ext w w')=>valid_any nm true b L cap w.heap.size w' x.size (StmsAt.below x L h) hs (by omega)
 rw[hv] at hval;have hfm:=formed_valid nm L hv;have hhd:(⟨#[100,105,103,114,97,112,104,32]⟩++nm:ByteArray).data.toList=[100,105,103,114,97,112,104,32]++nm.data.toList:=by simp[ByteArray.data_append]
 have hbt:blockT true 0 (⟨#[100,105,103,114,97,112,104,32]⟩++nm:ByteArray).data.toList L=printT true nm L:=by
  rw[hhd];unfold blockT printT;rw[show indT 0=[] from rfl];simp[List.append_assoc]
 have hcl:=fun w1 (x:Ext (w.alloc (.cells #[.string nm,.bool true,.slice b L.length cap] 33)) w1)=>tree_cells w nm true b L.length cap w1 x
 have hblk:=fun w1 (x:Ext w w1)=>block_any w he w1.heap.size ⟨#[45,62]⟩ true (by rfl) (by decide) 1048576 L b cap 0 [] (⟨#[100,105,103,114,97,112,104,32]⟩++nm) (w1.alloc (.cells #[.pointer none,.slice none 0 0,.string ⟨#[45,62]⟩,.int .i64 0] 152)) hs (by omega) (by omega) hfm (StmsAt.below (x.alloc _) L h) (x.alloc _) (wr_new2 w w1 x) (by rw[hbt];simp;omega)
 rw[hbt,List.nil_append] at hblk;have hne:printT true nm L ≠ []:=by unfold printT;simp
 have hadd:∀ w,(Op.stringOp .add ⟨#[100,105,103,114,97,112,104,32]⟩ nm).run Tryz.prog w=.ok (.string (⟨#[100,105,103,114,97,112,104,32]⟩++nm)) w:=fun w=>run_string_add_sum w _ _ (by show 8+_<=_;omega)
 have HVAL:=hid hval;have HCL:=hid hcl;have HBLK:=hid hblk;have HX:=hid hx0;have HNE:=hid hne;clear hval hcl hblk hx0 hne h hs hnm hlen hv hfm hhd hbt he;generalize printT true nm L=P at *;generalize L.length=N at *;go_enter Tryz.func37,Tryz.ntmps37
 go_wp2_with (first
  | (go_at_call 30;refine(HVAL.out _ HX.out).mono ?_;rintro e w1 ⟨rfl,x1⟩;obtain⟨k0,k1,k2⟩:=HCL.out _ (x1.alloc (.cells #[.pointer none,.slice none 0 0,.string ⟨#[45,45]⟩,.int .i64 0] 152));obtain⟨m0,m1,m2⟩:=HCL.out _ (x1.alloc (.cells #[.pointer none,.slice none 0 0,.string ⟨#[45,62]⟩,.int .i64 0] 152)))
  | (go_at_call 81;refine(HBLK.out _ (HX.out.trans x1)).mono ?_;rintro e w2 ⟨rfl,h2,x2⟩)
  | (go_at_call 82;refine(strOf_any _ _ _ _ P _ h2 HNE.out).mono ?_;rintro e w3 ⟨rfl,x3⟩))
 go_ret;exact⟨rfl,Below.trans (Below.trans ((HX.out.trans x1).alloc _) x2.1) x3⟩
theorem print_false (nm:ByteArray)(b:Option Addr)(L:List Stm)(cap:Nat)(w:World)(he:Env w)(h:StmsAt w.heap.size w b L)(hs:sizeL L<=1048576)(hnm:nm.size<=1048576)(hlen:(printT false nm L).length+1000<=140737488355328)(hv:validE nm L=0):
  Calls Tryz.prog 37 #[.agg #[.string nm,.bool false,.slice b L.length cap]] w fun e w'=>e=.returned (.string ⟨(printT false nm L).toArray⟩)/\Ext w w':=by
 have hx0:Ext w (w.alloc (.cells #[.string nm,.bool false,.slice b L.length cap] 33)):=(Ext.refl _).alloc _;have hval:=fun w' (x:Ext w w')=>valid_any nm false b L cap w.heap.size w' x.size (StmsAt.below x L h) hs (by omega)
 rw[hv] at hval;have hfm:=formed_valid nm L hv;have hhd:(⟨#[103,114,97,112,104,32]⟩++nm:ByteArray).data.toList=[103,114,97,112,104,32]++nm.data.toList:=by simp[ByteArray.data_append]
 have hbt:blockT false 0 (⟨#[103,114,97,112,104,32]⟩++nm:ByteArray).data.toList L=printT false nm L:=by
  rw[hhd];unfold blockT printT;rw[show indT 0=[] from rfl];simp[List.append_assoc]
 have hcl:=fun w1 (x:Ext (w.alloc (.cells #[.string nm,.bool false,.slice b L.length cap] 33)) w1)=>tree_cells w nm false b L.length cap w1 x
 have hblk:=fun w1 (x:Ext w w1)=>block_any w he w1.heap.size ⟨#[45,45]⟩ false (by rfl) (by decide) 1048576 L b cap 0 [] (⟨#[103,114,97,112,104,32]⟩++nm) (w1.alloc (.cells #[.pointer none,.slice none 0 0,.string ⟨#[45,45]⟩,.int .i64 0] 152)) hs (by omega) (by omega) hfm (StmsAt.below (x.alloc _) L h) (x.alloc _) (wr_new w w1 x) (by rw[hbt];simp;omega)
 rw[hbt,List.nil_append] at hblk;have hne:printT false nm L ≠ []:=by unfold printT;simp
 have hadd:∀ w,(Op.stringOp .add ⟨#[103,114,97,112,104,32]⟩ nm).run Tryz.prog w=.ok (.string (⟨#[103,114,97,112,104,32]⟩++nm)) w:=fun w=>run_string_add_sum w _ _ (by show 6+_<=_;omega)
 have HVAL:=hid hval;have HCL:=hid hcl;have HBLK:=hid hblk;have HX:=hid hx0;have HNE:=hid hne;clear hval hcl hblk hx0 hne h hs hnm hlen hv hfm hhd hbt he;generalize printT false nm L=P at *;generalize L.length=N at *;go_enter Tryz.func37,Tryz.ntmps37
 go_wp2_with (first
  | (go_at_call 30;refine(HVAL.out _ HX.out).mono ?_;rintro e w1 ⟨rfl,x1⟩;obtain⟨k0,k1,k2⟩:=HCL.out _ (x1.alloc (.cells #[.pointer none,.slice none 0 0,.string ⟨#[45,45]⟩,.int .i64 0] 152));skip)
  | (go_at_call 81;refine(HBLK.out _ (HX.out.trans x1)).mono ?_;rintro e w2 ⟨rfl,h2,x2⟩)
  | (go_at_call 82;refine(strOf_any _ _ _ _ P _ h2 HNE.out).mono ?_;rintro e w3 ⟨rfl,x3⟩))
 go_ret;exact⟨rfl,Below.trans (Below.trans ((HX.out.trans x1).alloc _) x2.1) x3⟩
end Go.Proofs.YtjaeedbjknejdaaGreatDoor.Tr
