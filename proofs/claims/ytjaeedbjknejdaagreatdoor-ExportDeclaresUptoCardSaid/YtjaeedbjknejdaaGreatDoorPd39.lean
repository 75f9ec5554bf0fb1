/- Packed texts: ExpAwk, NorDoc, NorDocT, NorDoc2, NorSiz, NorLnk -/
import Derived.Test.YtjaeedbjknejdaaGreatDoorPd38
set_option linter.unusedVariables false
set_option linter.unusedSimpArgs false
set_option maxHeartbeats 16000000
set_option maxRecDepth 100000
namespace Go.Proofs.YtjaeedbjknejdaaGreatDoor.Ex
open Go Go.RowKit Go.Sort Go.Lib Go.Shelf Fx Lx Tr At Pa Go.Proofs.YtjaeedbjknejdaaGreatDoor.Nm
def gA : Gr:=⟨⟨#[103]⟩,true,[⟨⟨#[97]⟩,⟨#[97]⟩,20000,10000,-1,[]⟩,⟨⟨#[98]⟩,⟨#[120]⟩,2000,10000,0,[]⟩],[⟨0,1,-1,-1,⟨#[]⟩,2,1⟩],[(⟨#[99]⟩,-1)]⟩
def oA : Op5:=⟨0,10000,20000,5000,8⟩
def bodyA : List Stm:=[.mk 1 ⟨#[98]⟩ [] [(⟨#[108,97,98,101,108]⟩,⟨#[120]⟩),(⟨#[119,105,100,116,104]⟩,⟨#[50]⟩)] []]
def tA : List Stm:=[.mk 1 ⟨#[97]⟩ [] [] [],.mk 5 ⟨#[99]⟩ [] [] bodyA,.mk 2 ⟨#[]⟩ [(⟨#[97]⟩,⟨#[]⟩),(⟨#[98]⟩,⟨#[]⟩)] [(⟨#[119,101,105,103,104,116]⟩,⟨#[50]⟩)] []]
theorem tree_A : treeT gA oA=.ok tA:=by kernel_rfl
theorem text_l : (decide (20 < (printT true ⟨#[103]⟩ tA).length) && decide ((printT true ⟨#[103]⟩ tA).length<=16384))=true:=by kernel_rfl
theorem text_A : ∃ s,textG gA oA=.ok s/\20 < s.length:=by
 have h:=text_l;simp only[Bool.and_eq_true,decide_eq_true_eq] at h;refine⟨printT true ⟨#[103]⟩ tA,?_,h.1⟩;unfold textG;rw[tree_A];show(if 16384 < (printT true ⟨#[103]⟩ tA).length then _ else _)=_;rw[if_neg (by omega)];rfl
def g0A : Gr:=⟨⟨#[]⟩,false,[],[],[]⟩
theorem tree_0 : treeT g0A oA=.error 1:=by kernel_rfl
theorem sm_A : GrSm gA:=by
 unfold GrSm;refine⟨by decide,by decide,by decide,by decide,fun x hx=>?_,fun x hx=>?_,fun x hx=>?_⟩
 ·simp only[gA,List.mem_cons,List.not_mem_nil,or_false] at hx;rcases hx with rfl | rfl
  ·exact⟨by decide,by decide,by decide,fun q hq=>by cases hq⟩
  exact⟨by decide,by decide,by decide,fun q hq=>by cases hq⟩
 ·simp only[gA,List.mem_cons,List.not_mem_nil,or_false] at hx;subst hx;decide
 simp only[gA,List.mem_cons,List.not_mem_nil,or_false] at hx;subst hx;decide
theorem sm_0 : GrSm g0A:=by
 unfold GrSm;exact⟨by decide,by decide,by decide,by decide,fun x hx=>(by cases hx),fun x hx=>(by cases hx),fun x hx=>(by cases hx)⟩
theorem in_0 (w:World):GrIn w (.agg #[.string ⟨#[]⟩,.bool false,.slice none 0 0,.slice none 0 0,.slice none 0 0]) g0A/\GrCp w (.agg #[.string ⟨#[]⟩,.bool false,.slice none 0 0,.slice none 0 0,.slice none 0 0]) g0A :=
 ⟨⟨none,0,none,0,none,0,rfl,(fun k h=>absurd h (Nat.not_lt_zero _)),(fun k h=>absurd h (Nat.not_lt_zero _)),(fun k h=>absurd h (Nat.not_lt_zero _))⟩,⟨none,0,none,0,none,0,rfl,(fun k h=>absurd h (Nat.not_lt_zero _)),Nat.le_refl _,Nat.zero_le _⟩⟩
theorem in_A {w:World}{n1 n2 n3:Nat}(h1:w.heap[n1]? = some (.cells #[.string ⟨#[97]⟩,.string ⟨#[97]⟩,.int .i64 20000,.int .i64 10000,.int .i64 (-1),.slice none 0 0,.string ⟨#[98]⟩,.string ⟨#[120]⟩,.int .i64 2000,.int .i64 10000,.int .i64 0,.slice none 0 0] 59 (0,0)))(h2:w.heap[n2]? = some (.cells #[.int .i64 0,.int .i64 1,.int .i64 (-1),.int .i64 (-1),.string ⟨#[]⟩,.int .i64 2,.int .i64 1] 61 (0,0)))(h3:w.heap[n3]? = some (.cells #[.string ⟨#[99]⟩,.int .i64 (-1)] 63 (0,0))):GrIn w (.agg #[.string ⟨#[103]⟩,.bool true,.slice (some ⟨n1,0,none⟩) 2 2,.slice (some ⟨n2,0,none⟩) 1 1,.slice (some ⟨n3,0,none⟩) 1 1]) gA/\GrCp w (.agg #[.string ⟨#[103]⟩,.bool true,.slice (some ⟨n1,0,none⟩) 2 2,.slice (some ⟨n2,0,none⟩) 1 1,.slice (some ⟨n3,0,none⟩) 1 1]) gA:=by
 have c1:∀ j v,(#[.string ⟨#[97]⟩,.string ⟨#[97]⟩,.int .i64 20000,.int .i64 10000,.int .i64 (-1),.slice none 0 0,.string ⟨#[98]⟩,.string ⟨#[120]⟩,.int .i64 2000,.int .i64 10000,.int .i64 0,.slice none 0 0]:Array Value)[j]? = some v->w.cell? ⟨n1,j,none⟩=some v:=fun j v h=>by rw[Lib.cell_of_heap h1];exact h
 have c2:∀ j v,(#[.int .i64 0,.int .i64 1,.int .i64 (-1),.int .i64 (-1),.string ⟨#[]⟩,.int .i64 2,.int .i64 1]:Array Value)[j]? = some v->w.cell? ⟨n2,j,none⟩=some v:=fun j v h=>by rw[Lib.cell_of_heap h2];exact h
 have c3:∀ j v,(#[.string ⟨#[99]⟩,.int .i64 (-1)]:Array Value)[j]? = some v->w.cell? ⟨n3,j,none⟩=some v:=fun j v h=>by rw[Lib.cell_of_heap h3];exact h
 refine⟨⟨some ⟨n1,0,none⟩,2,some ⟨n2,0,none⟩,1,some ⟨n3,0,none⟩,1,rfl,fun k hk=>?_,fun k hk=>?_,fun k hk=>?_⟩,⟨some ⟨n1,0,none⟩,2,some ⟨n2,0,none⟩,1,some ⟨n3,0,none⟩,1,rfl,fun k hk g o p n c ha hc=>?_,Nat.le_refl _,by decide⟩⟩
 ·have hk:k < 2:=hk
  match k,hk with
  | 0,_=>exact⟨n1,0,none,0,rfl,c1 0 _ rfl,c1 1 _ rfl,c1 2 _ rfl,c1 3 _ rfl,c1 4 _ rfl,c1 5 _ rfl,fun j hj=>absurd hj (Nat.not_lt_zero _)⟩
  | 1,_=>exact⟨n1,0,none,0,rfl,c1 6 _ rfl,c1 7 _ rfl,c1 8 _ rfl,c1 9 _ rfl,c1 10 _ rfl,c1 11 _ rfl,fun j hj=>absurd hj (Nat.not_lt_zero _)⟩
 ·have hk:k < 1:=hk
  match k,hk with
  | 0,_=>exact⟨n2,0,rfl,c2 0 _ rfl,c2 1 _ rfl,c2 2 _ rfl,c2 3 _ rfl,c2 4 _ rfl,c2 5 _ rfl,c2 6 _ rfl⟩
 ·have hk:k < 1:=hk
  match k,hk with
  | 0,_=>exact⟨n3,0,rfl,c3 0 _ rfl,c3 1 _ rfl⟩
 ·have hk:k < 2:=hk;injection ha with ha;injection ha with e1 e2;subst e1;subst e2
  match k,hk with
  | 0,_ =>
   have:=c1 5 _ rfl;have hc:w.cell? ⟨n1,5,none⟩=some (.slice p n c):=hc;rw[this] at hc;injection hc with hc;injection hc with e3 e4 e5;subst e4;subst e5;exact⟨Nat.le_refl _,Nat.zero_le _⟩
  | 1,_ =>
   have:=c1 11 _ rfl;have hc:w.cell? ⟨n1,11,none⟩=some (.slice p n c):=hc;rw[this] at hc;injection hc with hc;injection hc with e3 e4 e5;subst e4;subst e5;exact⟨Nat.le_refl _,Nat.zero_le _⟩
structure TaC (w:World)(g o g2 o2 g3 o3 bc2 ac2 ac3:Nat)(a3:Option Addr):Prop where
 k:w.cell? ⟨g,o+5,none⟩=some (.int .i64 5)
 b:w.cell? ⟨g,o+5+4,none⟩=some (.slice (some ⟨g2,o2,none⟩) 1 bc2)
 a:w.cell? ⟨g2,o2+3,none⟩=some (.slice (some ⟨g3,o3,none⟩) 2 ac2)
 q0:w.cell? ⟨g3,o3+2,none⟩=some (.string ⟨#[119,105,100,116,104]⟩)
 q1:w.cell? ⟨g3,o3+2+1,none⟩=some (.string ⟨#[50]⟩)
 e:w.cell? ⟨g,o+10+3,none⟩=some (.slice a3 1 ac3)
theorem ta_cells {n:Nat}{w:World}{b:Option Addr}(h:StmsAt n w b tA):∃ g o g2 o2 g3 o3 bc2 ac2 ac3 a3,b=some ⟨g,o,none⟩/\TaC w g o g2 o2 g3 o3 bc2 ac2 ac3 a3:=by
 obtain⟨g,o,rfl,-,h1⟩:=StmsAt.at tA h 1 (by decide);obtain⟨g',o',e,-,h2⟩:=StmsAt.at tA h 2 (by decide);injection e with e;injection e with e1 e2;subst e1;subst e2;have h1:StmAt n w g (o+1 * 5) (.mk 5 ⟨#[99]⟩ [] [] bodyA):=h1;have h2:StmAt n w g (o+2 * 5) (.mk 2 ⟨#[]⟩ [(⟨#[97]⟩,⟨#[]⟩),(⟨#[98]⟩,⟨#[]⟩)] [(⟨#[119,101,105,103,104,116]⟩,⟨#[50]⟩)] []):=h2;rw[StmAt] at h1 h2;obtain⟨r,rc,a,ac,b1,bc,c0,c1,c2,c3,c4,-,-,hb,-⟩:=h1;obtain⟨r',rc',a',ac',b1',bc',d0,d1,d2,d3,d4,-⟩:=h2;obtain⟨g2,o2,rfl,-,h3⟩:=StmsAt.at bodyA hb 0 (by decide);have h3:StmAt n w g2 (o2+0 * 5) (.mk 1 ⟨#[98]⟩ [] [(⟨#[108,97,98,101,108]⟩,⟨#[120]⟩),(⟨#[119,105,100,116,104]⟩,⟨#[50]⟩)] []):=h3;rw[StmAt] at h3;obtain⟨r3,rc3,a3,ac3,b3,bc3,-,-,-,e3,-,-,ha3,-⟩:=h3
 obtain⟨g3,o3,rfl,-,q0,q1⟩:=ha3 1 (by decide);exact⟨g,o,g2,o2,g3,o3,bc,ac3,ac',a',rfl,⟨c0,c4,e3,q0,q1,d3⟩⟩
theorem TaC.ext {w w':World}{g o g2 o2 g3 o3 bc2 ac2 ac3:Nat}{a3:Option Addr}(h:TaC w g o g2 o2 g3 o3 bc2 ac2 ac3 a3)(x:Ext w w'):TaC w' g o g2 o2 g3 o3 bc2 ac2 ac3 a3 :=
 ⟨x.cell h.k,x.cell h.b,x.cell h.a,x.cell h.q0,x.cell h.q1,x.cell h.e⟩
theorem below3 {w w':World}{n:Nat}{u0 u1 u2:Value}(x:Ext w w')(hn:n=w.heap.size:=by omega):Below n w (((w'.setCell ⟨n,0,none⟩ u0).setCell ⟨n,1,none⟩ u1).setCell ⟨n,2,none⟩ u2):=by
 subst hn;exact ext3t x (Nat.le_refl _) _ _ _
theorem awake_any (w:World)(he:Env w):Calls Tryz.prog 9 #[] w fun e w'=>e=.returned (.bool true)/\Ext w w':=by
 have HE:=hid he;clear he;go_enter Tryz.func9,Tryz.ntmps9
 go_upto_region 2 with fail
 obtain⟨n1,hn1⟩:∃ n,n=w.heap.size:=⟨_,rfl⟩;obtain⟨n2,hn2⟩:∃ n,n=w.heap.size+1:=⟨_,rfl⟩;obtain⟨n3,hn3⟩:∃ n,n=w.heap.size+1+1:=⟨_,rfl⟩;obtain⟨gb,hgb⟩:∃ n,n=w.heap.size+1+1+1:=⟨_,rfl⟩;obtain⟨w1,hw1⟩:∃ w',w'=((((w.alloc (.cells #[.string ⟨#[97]⟩,.string ⟨#[97]⟩,.int .i64 20000,.int .i64 10000,.int .i64 (-1),.slice none 0 0,.string ⟨#[98]⟩,.string ⟨#[120]⟩,.int .i64 2000,.int .i64 10000,.int .i64 0,.slice none 0 0] 59)).alloc (.cells #[.int .i64 0,.int .i64 1,.int .i64 (-1),.int .i64 (-1),.string ⟨#[]⟩,.int .i64 2,.int .i64 1] 61)).alloc (.cells #[.string ⟨#[99]⟩,.int .i64 (-1)] 63)).alloc (.cells #[.string ⟨#[103]⟩,.bool true,.slice (some ⟨w.heap.size,0,none⟩) 2 2,.slice (some ⟨w.heap.size+1,0,none⟩) 1 1,.slice (some ⟨w.heap.size+1+1,0,none⟩) 1 1] 26)):=⟨_,rfl⟩
 have B1:Hid (w1.heap[n1]? = some (.cells #[.string ⟨#[97]⟩,.string ⟨#[97]⟩,.int .i64 20000,.int .i64 10000,.int .i64 (-1),.slice none 0 0,.string ⟨#[98]⟩,.string ⟨#[120]⟩,.int .i64 2000,.int .i64 10000,.int .i64 0,.slice none 0 0] 59 (0,0))):=hid (by rw[hw1,hn1];exact At.heap_ext (heap_alloc_new w _) ((((Ext.refl _).alloc _).alloc _).alloc _));have B2:Hid (w1.heap[n2]? = some (.cells #[.int .i64 0,.int .i64 1,.int .i64 (-1),.int .i64 (-1),.string ⟨#[]⟩,.int .i64 2,.int .i64 1] 61 (0,0))):=hid (by rw[hw1,hn2];exact At.heap_ext (new2 w _ _ (by simp)) (((Ext.refl _).alloc _).alloc _));have B3:Hid (w1.heap[n3]? = some (.cells #[.string ⟨#[99]⟩,.int .i64 (-1)] 63 (0,0))):=hid (by rw[hw1,hn3];exact two_newT ((Ext.refl _).alloc _))
 have BG:Hid (w1.heap[gb]? = some (.cells #[.string ⟨#[103]⟩,.bool true,.slice (some ⟨n1,0,none⟩) 2 2,.slice (some ⟨n2,0,none⟩) 1 1,.slice (some ⟨n3,0,none⟩) 1 1] 26 (0,0))):=hid (by rw[hw1,hgb,hn1,hn2,hn3];have h:=heap_alloc_new (((w.alloc (.cells #[.string ⟨#[97]⟩,.string ⟨#[97]⟩,.int .i64 20000,.int .i64 10000,.int .i64 (-1),.slice none 0 0,.string ⟨#[98]⟩,.string ⟨#[120]⟩,.int .i64 2000,.int .i64 10000,.int .i64 0,.slice none 0 0] 59)).alloc (.cells #[.int .i64 0,.int .i64 1,.int .i64 (-1),.int .i64 (-1),.string ⟨#[]⟩,.int .i64 2,.int .i64 1] 61)).alloc (.cells #[.string ⟨#[99]⟩,.int .i64 (-1)] 63)) (.cells #[.string ⟨#[103]⟩,.bool true,.slice (some ⟨w.heap.size,0,none⟩) 2 2,.slice (some ⟨w.heap.size+1,0,none⟩) 1 1,.slice (some ⟨w.heap.size+1+1,0,none⟩) 1 1] 26);simp only[World.size_alloc] at h;exact h)
 have X1:Hid (Ext w w1):=hid (by rw[hw1];exact(((((Ext.refl _).alloc _).alloc _).alloc _).alloc _));rw[<-hw1,<- hgb,<- hn3,<- hn2,<- hn1];have HIN:=hid (in_A B1.out B2.out B3.out)
 have HT:Hid (∀ w5,Ext w1 w5->Calls Tryz.prog 10 #[.agg #[.string ⟨#[103]⟩,.bool true,.slice (some ⟨n1,0,none⟩) 2 2,.slice (some ⟨n2,0,none⟩) 1 1,.slice (some ⟨n3,0,none⟩) 1 1],.agg #[.int .i64 0,.int .i64 10000,.int .i64 20000,.int .i64 5000,.int .i64 8]] w5 fun e w'=>(∃ b c,e=.returned (.tuple #[.agg #[.string ⟨#[103]⟩,.bool true,.slice b 3 c],.int .i64 0])/\StmsP (w5.heap.size <= ·) w' b tA)/\Ext w5 w'):=hid (fun w5 x=>by
  have h:=treeP_all gA (some ⟨n1,0,none⟩) (some ⟨n2,0,none⟩) (some ⟨n3,0,none⟩) 2 1 1 oA w5 (HIN.out.1.ext x) (HIN.out.2.ext HIN.out.1 x) sm_A (HE.out.ext (X1.out.trans x));rw[tree_A] at h
  exact h.mono fun e w' hh=>by obtain⟨⟨b,c,e1,e2,-⟩,x⟩:=hh;exact⟨⟨b,c,e1,e2⟩,x⟩)
 obtain⟨S,hS,hSl⟩:=text_A
 have HX:Hid (∀ w5,Ext w1 w5->Calls Tryz.prog 13 #[.agg #[.string ⟨#[103]⟩,.bool true,.slice (some ⟨n1,0,none⟩) 2 2,.slice (some ⟨n2,0,none⟩) 1 1,.slice (some ⟨n3,0,none⟩) 1 1],.agg #[.int .i64 0,.int .i64 10000,.int .i64 20000,.int .i64 5000,.int .i64 8]] w5 fun e w'=>e=.returned (.tuple #[.string ⟨S.toArray⟩,.int .i64 0])/\Ext w5 w'):=hid (fun w5 x=>by
  have h:=textP_all gA (some ⟨n1,0,none⟩) (some ⟨n2,0,none⟩) (some ⟨n3,0,none⟩) 2 1 1 oA w5 (HIN.out.1.ext x) (HIN.out.2.ext HIN.out.1 x) sm_A (HE.out.ext (X1.out.trans x));rw[hS] at h
  exact h)
 obtain⟨SB,hSB⟩:∃ s:ByteArray,s=⟨S.toArray⟩:=⟨_,rfl⟩
 have hSz:(20:Int) < SB.size:=by
  have:SB.size=S.length:=by rw[hSB];exact List.size_toArray ..
  rw[this];omega
 rw[<-hSB] at HX
 have H0:Hid (∀ w5,Ext w w5->Calls Tryz.prog 10 #[.agg #[.string ⟨#[]⟩,.bool false,.slice none 0 0,.slice none 0 0,.slice none 0 0],.agg #[.int .i64 0,.int .i64 10000,.int .i64 20000,.int .i64 5000,.int .i64 8]] w5 fun e w'=>e=.returned (.tuple #[.agg #[.string ⟨#[]⟩,.bool false,.slice none 0 0],.int .i64 1])/\Ext w5 w'):=hid (fun w5 x=>by
  have h:=treeP_all g0A none none none 0 0 0 oA w5 (in_0 w5).1 (in_0 w5).2 sm_0 (HE.out.ext x);rw[tree_0] at h
  exact h)
 have HNO:Hid (∀ w5,Calls Tryz.prog 20 #[] w5 fun e w'=>e=.returned (.agg #[.int .i64 0,.int .i64 10000,.int .i64 20000,.int .i64 5000,.int .i64 8])/\Ext w5 w'):=hid (fun w5=>normal_any w5);clear hw1 hS hSl hSB hn1 hn2 hn3 hgb HIN B1 B2 B3;obtain⟨g0,g1,g2,g3,g4⟩:=cells5g BG.out
 go_cut [2,3] from 4 to 104 (fun s2 s3 wx=>∃ tb b c,s2=.pointer (some ⟨tb,0,none⟩)/\s3=.int .i64 0/\Hid (wx.heap[tb]? = some (.cells #[.string ⟨#[103]⟩,.bool true,.slice b 3 c] 33 (0,0)))/\Hid (StmsAt wx.heap.size wx b tA)/\Hid (Ext w1 wx))
 case first =>
  go_wp2_with fail;refine wp_region_K (S:=fun w'=>w'.cell? ⟨gb,0,none⟩=some (.string ⟨#[103]⟩)/\w'.cell? ⟨gb,1,none⟩=some (.bool true)/\w'.cell? ⟨gb,2,none⟩=some (.slice (some ⟨n1,0,none⟩) 2 2)/\w'.cell? ⟨gb,3,none⟩=some (.slice (some ⟨n2,0,none⟩) 1 1)/\w'.cell? ⟨gb,4,none⟩=some (.slice (some ⟨n3,0,none⟩) 1 1)) (n:=8) (by kernel_rfl) (by exact⟨Ext.cell ((Ext.refl w1).drew) g0,Ext.cell ((Ext.refl w1).drew) g1,Ext.cell ((Ext.refl w1).drew) g2,Ext.cell ((Ext.refl w1).drew) g3,Ext.cell ((Ext.refl w1).drew) g4⟩) (fun hHeld=>?_);refine kU 8 0 rfl hHeld ?_
  (try simp only[Act.put,q1,q2,q3])
  refine wpAnyK_two (i:=1) (j:=6) (oi:=_) (oj:=_) rfl rfl (by kernel_rfl) (fun KK hKK=>?_) (fun KK hKK=>?_)
  ·go_simp
   (go_at_call 20;refine Calls.mono (by exact HNO.out _) ?_;rintro e w6 ⟨rfl,x6⟩)
   have ZN:Hid (Ext w1 w6):=hid (((Ext.refl w1).drew).trans x6);clear x6;refine hKK.out _ _ (fun _=>?_) (fun hH=>?_)
   ·(exact⟨Ext.cell (ZN.out) g0,Ext.cell (ZN.out) g1,Ext.cell (ZN.out) g2,Ext.cell (ZN.out) g3,Ext.cell (ZN.out) g4⟩)
   clear hHeld;have hHeld:=hH (by decide);clear hKK KK hH;(try dsimp only at hHeld)
   (try simp only[Act.put,q1,q2,q3])
   refine wpAnyK_two (i:=2) (j:=6) (oi:=_) (oj:=_) rfl rfl (by kernel_rfl) (fun KK hKK=>?_) (fun KK hKK=>?_)
   ·go_simp
    (go_at_call 10;refine Calls.mono (by exact HT.out _ (ZN.out)) ?_;rintro e w7 ⟨⟨b,c,rfl,hst⟩,x7⟩)
    have HST:=hid hst;have X7:=hid x7;have ZT:Hid (Ext w1 w7):=hid ((ZN.out).trans x7);clear hst x7;refine hKK.out _ _ (fun _=>?_) (fun hH=>?_)
    ·(exact⟨Ext.cell (ZT.out) g0,Ext.cell (ZT.out) g1,Ext.cell (ZT.out) g2,Ext.cell (ZT.out) g3,Ext.cell (ZT.out) g4⟩)
    clear hHeld;have hHeld:=hH (by decide);clear hKK KK hH;(try dsimp only at hHeld)
    (try simp only[Act.put,q1,q2,q3])
    refine kU 8 3 rfl hHeld ?_
    (try simp only[Act.put,q1,q2,q3])
    refine kU 8 4 rfl hHeld ?_
    (try simp only[Act.put,q1,q2,q3])
    refine kU 8 5 rfl hHeld ?_
    (try simp only[Act.put,q1,q2,q3])
    refine wpAnyK_step (o:=_) (i:=6) rfl (by kernel_rfl) (fun KK hKK=>?_);go_simp;obtain⟨tb,htb⟩:∃ n,n=(w7).heap.size:=⟨_,rfl⟩;obtain⟨wt,hwt⟩:∃ w',w'=((w7).alloc (.cells #[.string ⟨#[]⟩,.bool false,.slice none 0 0] 33)):=⟨_,rfl⟩;have HTE:Hid (tb=(w7).heap.size):=hid htb;have TX:Hid (wt.heap[tb]? = some (.cells #[.string ⟨#[]⟩,.bool false,.slice none 0 0] 33 (0,0))):=hid (by rw[hwt,htb];exact heap_alloc_new _ _);have XT:Hid (Ext (w7) wt):=hid (by rw[hwt];exact((Ext.refl _).alloc _));have HTB:Hid (tb+1=wt.heap.size):=hid (by rw[hwt,htb];simp);have ZA:Hid (Ext w1 wt):=hid ((ZT.out).trans XT.out);have HTW:Hid (w1.heap.size<=tb):=hid (by have h1:=(ZT.out).size;omega);have HST2:Hid (StmsAt tb w7 b tA):=hid (by rw[htb];exact stmsV_at HST.out);rw[<-hwt,<- htb];clear hwt htb
    refine hKK.out _ _ (fun _=>?_) (fun hH=>?_)
    ·(exact⟨Ext.cell (ZA.out) g0,Ext.cell (ZA.out) g1,Ext.cell (ZA.out) g2,Ext.cell (ZA.out) g3,Ext.cell (ZA.out) g4⟩)
    clear hHeld;have hHeld:=hH (by decide);clear hKK KK hH;(try dsimp only at hHeld)
    (try simp only[Act.put,q1,q2,q3])
    have q0:=(cells3t TX.out).1;have q1:=(cells3t TX.out).2.1;have q2:=(cells3t TX.out).2.2.1;have qf:=(cells3t TX.out).2.2.2;refine wpAnyK_step (o:=_) (i:=7) rfl (by kernel_rfl) (fun KK hKK=>?_);go_simp;refine hKK.out _ _ (fun _=>?_) (fun hH=>?_)
    ·(exact⟨Ext.cell (ext3t (ZA.out) HTW.out _ _ _) g0,Ext.cell (ext3t (ZA.out) HTW.out _ _ _) g1,Ext.cell (ext3t (ZA.out) HTW.out _ _ _) g2,Ext.cell (ext3t (ZA.out) HTW.out _ _ _) g3,Ext.cell (ext3t (ZA.out) HTW.out _ _ _) g4⟩)
    clear hHeld;have hHeld:=hH (by decide);clear hKK KK hH;(try dsimp only at hHeld)
    (try simp only[Act.put,q1,q2,q3])
    refine wpAnyK_step (o:=_) (i:=8) rfl (by kernel_rfl) (fun KK hKK=>?_);go_simp;refine hKK.out _ _ (fun h=>absurd rfl h) (fun _=>?_);clear hKK KK
    (try simp only[Act.put,q1,q2,q3])
    refine wpAnyK_done (by kernel_rfl) ?_ _;go_wp2_with fail
    go_meet
    exact⟨tb,b,c,rfl,rfl,hid (set3t (TX.out) _ _ _),hid (StmsAt.mono (by rw[size_setC,size_setC,size_setC];have:=HTB.out;omega) tA (StmsAt.below (below3 XT.out HTE.out) tA HST2.out)),hid (ext3t (ZA.out) HTW.out _ _ _)⟩
   go_simp;obtain⟨tb,htb⟩:∃ n,n=(w6).heap.size:=⟨_,rfl⟩;obtain⟨wt,hwt⟩:∃ w',w'=((w6).alloc (.cells #[.string ⟨#[]⟩,.bool false,.slice none 0 0] 33)):=⟨_,rfl⟩;have HTE:Hid (tb=(w6).heap.size):=hid htb;have TX:Hid (wt.heap[tb]? = some (.cells #[.string ⟨#[]⟩,.bool false,.slice none 0 0] 33 (0,0))):=hid (by rw[hwt,htb];exact heap_alloc_new _ _);have XT:Hid (Ext (w6) wt):=hid (by rw[hwt];exact((Ext.refl _).alloc _));have HTB:Hid (tb+1=wt.heap.size):=hid (by rw[hwt,htb];simp);have ZA:Hid (Ext w1 wt):=hid ((ZN.out).trans XT.out);have HTW:Hid (w1.heap.size<=tb):=hid (by have h1:=(ZN.out).size;omega);rw[<-hwt,<- htb];clear hwt htb;refine hKK.out _ _ (fun _=>?_) (fun hH=>?_)
   ·(exact⟨Ext.cell (ZA.out) g0,Ext.cell (ZA.out) g1,Ext.cell (ZA.out) g2,Ext.cell (ZA.out) g3,Ext.cell (ZA.out) g4⟩)
   clear hHeld;have hHeld:=hH (by decide);clear hKK KK hH;(try dsimp only at hHeld)
   (try simp only[Act.put,q1,q2,q3])
   refine wpAnyK_step (o:=_) (i:=2) rfl (by kernel_rfl) (fun KK hKK=>?_);go_simp
   (go_at_call 10;refine Calls.mono (by exact HT.out _ (ZA.out)) ?_;rintro e w7 ⟨⟨b,c,rfl,hst⟩,x7⟩)
   have HST:=hid hst;have X7:=hid x7;have ZT:Hid (Ext w1 w7):=hid ((ZA.out).trans x7);clear hst x7;refine hKK.out _ _ (fun _=>?_) (fun hH=>?_)
   ·(exact⟨Ext.cell (ZT.out) g0,Ext.cell (ZT.out) g1,Ext.cell (ZT.out) g2,Ext.cell (ZT.out) g3,Ext.cell (ZT.out) g4⟩)
   clear hHeld;have hHeld:=hH (by decide);clear hKK KK hH;(try dsimp only at hHeld)
   (try simp only[Act.put,q1,q2,q3])
   refine kU 8 3 rfl hHeld ?_
   (try simp only[Act.put,q1,q2,q3])
   refine kU 8 4 rfl hHeld ?_
   (try simp only[Act.put,q1,q2,q3])
   refine kU 8 5 rfl hHeld ?_
   (try simp only[Act.put,q1,q2,q3])
   have q0:=(cells3t (At.heap_ext TX.out X7.out)).1;have q1:=(cells3t (At.heap_ext TX.out X7.out)).2.1;have q2:=(cells3t (At.heap_ext TX.out X7.out)).2.2.1;have qf:=(cells3t (At.heap_ext TX.out X7.out)).2.2.2;refine wpAnyK_step (o:=_) (i:=7) rfl (by kernel_rfl) (fun KK hKK=>?_);go_simp;refine hKK.out _ _ (fun _=>?_) (fun hH=>?_)
   ·(exact⟨Ext.cell (ext3t (ZT.out) HTW.out _ _ _) g0,Ext.cell (ext3t (ZT.out) HTW.out _ _ _) g1,Ext.cell (ext3t (ZT.out) HTW.out _ _ _) g2,Ext.cell (ext3t (ZT.out) HTW.out _ _ _) g3,Ext.cell (ext3t (ZT.out) HTW.out _ _ _) g4⟩)
   clear hHeld;have hHeld:=hH (by decide);clear hKK KK hH;(try dsimp only at hHeld)
   (try simp only[Act.put,q1,q2,q3])
   refine wpAnyK_step (o:=_) (i:=8) rfl (by kernel_rfl) (fun KK hKK=>?_);go_simp;refine hKK.out _ _ (fun h=>absurd rfl h) (fun _=>?_);clear hKK KK
   (try simp only[Act.put,q1,q2,q3])
   refine wpAnyK_done (by kernel_rfl) ?_ _;go_wp2_with fail
   go_meet
   exact⟨tb,b,c,rfl,rfl,hid (set3t ((At.heap_ext TX.out X7.out)) _ _ _),hid (stmsV_at (stmsP_turn3 HST.out (Ext.refl _) (Array.getElem?_eq_some_iff.1 TX.out).1)),hid (ext3t (ZT.out) HTW.out _ _ _)⟩
  go_simp;obtain⟨tb,htb⟩:∃ n,n=(w1).heap.size:=⟨_,rfl⟩;obtain⟨wt,hwt⟩:∃ w',w'=((w1).alloc (.cells #[.string ⟨#[]⟩,.bool false,.slice none 0 0] 33)).drew:=⟨_,rfl⟩;have HTE:Hid (tb=(w1).heap.size):=hid htb;have TX:Hid (wt.heap[tb]? = some (.cells #[.string ⟨#[]⟩,.bool false,.slice none 0 0] 33 (0,0))):=hid (by rw[hwt,htb];exact heap_alloc_new _ _);have XT:Hid (Ext (w1) wt):=hid (by rw[hwt];exact((Ext.refl _).alloc _).drew);have HTB:Hid (tb+1=wt.heap.size):=hid (by rw[hwt,htb];simp);have ZA:Hid (Ext w1 wt):=hid ((Ext.refl w1).trans XT.out);have HTW:Hid (w1.heap.size<=tb):=hid (by have h1:=(Ext.refl w1).size;omega);rw[<-hwt,<- htb];clear hwt htb;refine hKK.out _ _ (fun _=>?_) (fun hH=>?_)
  ·(exact⟨Ext.cell (ZA.out) g0,Ext.cell (ZA.out) g1,Ext.cell (ZA.out) g2,Ext.cell (ZA.out) g3,Ext.cell (ZA.out) g4⟩)
  clear hHeld;have hHeld:=hH (by decide);clear hKK KK hH;(try dsimp only at hHeld)
  (try simp only[Act.put,q1,q2,q3])
  refine wpAnyK_step (o:=_) (i:=1) rfl (by kernel_rfl) (fun KK hKK=>?_);go_simp
  (go_at_call 20;refine Calls.mono (by exact HNO.out _) ?_;rintro e w6 ⟨rfl,x6⟩)
  have ZN:Hid (Ext w1 w6):=hid ((ZA.out).trans x6);have XN:Hid (Ext wt w6):=hid x6;clear x6;refine hKK.out _ _ (fun _=>?_) (fun hH=>?_)
  ·(exact⟨Ext.cell (ZN.out) g0,Ext.cell (ZN.out) g1,Ext.cell (ZN.out) g2,Ext.cell (ZN.out) g3,Ext.cell (ZN.out) g4⟩)
  clear hHeld;have hHeld:=hH (by decide);clear hKK KK hH;(try dsimp only at hHeld)
  (try simp only[Act.put,q1,q2,q3])
  refine wpAnyK_step (o:=_) (i:=2) rfl (by kernel_rfl) (fun KK hKK=>?_);go_simp
  (go_at_call 10;refine Calls.mono (by exact HT.out _ (ZN.out)) ?_;rintro e w7 ⟨⟨b,c,rfl,hst⟩,x7⟩)
  have HST:=hid hst;have X7:=hid x7;have ZT:Hid (Ext w1 w7):=hid ((ZN.out).trans x7);clear hst x7;refine hKK.out _ _ (fun _=>?_) (fun hH=>?_)
  ·(exact⟨Ext.cell (ZT.out) g0,Ext.cell (ZT.out) g1,Ext.cell (ZT.out) g2,Ext.cell (ZT.out) g3,Ext.cell (ZT.out) g4⟩)
  clear hHeld;have hHeld:=hH (by decide);clear hKK KK hH;(try dsimp only at hHeld)
  (try simp only[Act.put,q1,q2,q3])
  refine kU 8 3 rfl hHeld ?_
  (try simp only[Act.put,q1,q2,q3])
  refine kU 8 4 rfl hHeld ?_
  (try simp only[Act.put,q1,q2,q3])
  refine kU 8 5 rfl hHeld ?_
  (try simp only[Act.put,q1,q2,q3])
  have q0:=(cells3t (At.heap_ext TX.out (XN.out.trans X7.out))).1;have q1:=(cells3t (At.heap_ext TX.out (XN.out.trans X7.out))).2.1;have q2:=(cells3t (At.heap_ext TX.out (XN.out.trans X7.out))).2.2.1;have qf:=(cells3t (At.heap_ext TX.out (XN.out.trans X7.out))).2.2.2;refine wpAnyK_step (o:=_) (i:=7) rfl (by kernel_rfl) (fun KK hKK=>?_);go_simp;refine hKK.out _ _ (fun _=>?_) (fun hH=>?_)
  ·(exact⟨Ext.cell (ext3t (ZT.out) HTW.out _ _ _) g0,Ext.cell (ext3t (ZT.out) HTW.out _ _ _) g1,Ext.cell (ext3t (ZT.out) HTW.out _ _ _) g2,Ext.cell (ext3t (ZT.out) HTW.out _ _ _) g3,Ext.cell (ext3t (ZT.out) HTW.out _ _ _) g4⟩)
  clear hHeld;have hHeld:=hH (by decide);clear hKK KK hH;(try dsimp only at hHeld)
  (try simp only[Act.put,q1,q2,q3])
  refine wpAnyK_step (o:=_) (i:=8) rfl (by kernel_rfl) (fun KK hKK=>?_);go_simp;refine hKK.out _ _ (fun h=>absurd rfl h) (fun _=>?_);clear hKK KK
  (try simp only[Act.put,q1,q2,q3])
  refine wpAnyK_done (by kernel_rfl) ?_ _;go_wp2_with fail
  go_meet
  exact⟨tb,b,c,rfl,rfl,hid (set3t ((At.heap_ext TX.out (XN.out.trans X7.out))) _ _ _),hid (stmsV_at (stmsP_turn3 HST.out (Ext.refl _) (Nat.lt_of_lt_of_le (Array.getElem?_eq_some_iff.1 TX.out).1 XN.out.size))),hid (ext3t (ZT.out) HTW.out _ _ _)⟩
 obtain⟨tb,b,c,rfl,rfl,HT1,HST,ZC⟩:=hcut;obtain⟨g,o,gg2,o2,gg3,o3,bc2,ac2,ac3,a3,rfl,hta⟩:=ta_cells HST.out;have HTA:=hid hta;clear hta g0 g1 g2 g3 g4;obtain⟨t0,t1,t2,-⟩:=cells3t HT1.out;obtain⟨k0,k1,k2,k3,k4,k5⟩:=HTA.out
 go_upto_region 6 with(first
  | (go_at_call 20;refine Calls.mono (by exact HNO.out _) ?_;rintro e w6 ⟨rfl,x6⟩;have X6:=hid x6;clear x6)
  | (go_at_call 10;refine Calls.mono (by exact H0.out _ ((X1.out.trans ZC.out).trans X6.out)) ?_;rintro e w7 ⟨rfl,x7⟩;have X7:Hid (Ext wc w7):=hid (X6.out.trans x7);clear x7))
 obtain⟨wd,hwd⟩:∃ w',w'=w7.alloc (.cells #[.string ⟨#[]⟩,.bool false,.slice none 0 0] 33):=⟨_,rfl⟩;have XD:Hid (Ext wc wd):=hid (by rw[hwd];exact X7.out.alloc _);rw[<-hwd];clear hwd t0 t1 t2 k0 k1 k2 k3 k4 k5;have ZD:Hid (Ext w1 wd):=hid (ZC.out.trans XD.out);obtain⟨g0,g1,g2,g3,g4⟩:=cells5g (At.heap_ext BG.out ZD.out);go_wp2_with fail
 refine wp_region_K (S:=fun w'=>w'.cell? ⟨gb,0,none⟩=some (.string ⟨#[103]⟩)/\w'.cell? ⟨gb,1,none⟩=some (.bool true)/\w'.cell? ⟨gb,2,none⟩=some (.slice (some ⟨n1,0,none⟩) 2 2)/\w'.cell? ⟨gb,3,none⟩=some (.slice (some ⟨n2,0,none⟩) 1 1)/\w'.cell? ⟨gb,4,none⟩=some (.slice (some ⟨n3,0,none⟩) 1 1)) (n:=7) (by kernel_rfl) (by exact⟨Ext.cell ((Ext.refl wd).drew) g0,Ext.cell ((Ext.refl wd).drew) g1,Ext.cell ((Ext.refl wd).drew) g2,Ext.cell ((Ext.refl wd).drew) g3,Ext.cell ((Ext.refl wd).drew) g4⟩) (fun hHeld=>?_);refine kU 7 0 rfl hHeld ?_
 (try simp only[Act.put,q1,q2,q3])
 refine wpAnyK_step (o:=_) (i:=1) rfl (by kernel_rfl) (fun KK hKK=>?_);go_simp
 (go_at_call 20;refine Calls.mono (by exact HNO.out _) ?_;rintro e w8 ⟨rfl,x8⟩;have X8:Hid (Ext wd w8):=hid ((Ext.refl wd).drew.trans x8);clear x8)
 refine hKK.out _ _ (fun _=>?_) (fun hH=>?_)
 ·(exact⟨Ext.cell (X8.out) g0,Ext.cell (X8.out) g1,Ext.cell (X8.out) g2,Ext.cell (X8.out) g3,Ext.cell (X8.out) g4⟩)
 clear hHeld;have hHeld:=hH (by decide);clear hKK KK hH;(try dsimp only at hHeld)
 (try simp only[Act.put,q1,q2,q3])
 refine wpAnyK_step (o:=_) (i:=2) rfl (by kernel_rfl) (fun KK hKK=>?_);go_simp
 (go_at_call 13;refine Calls.mono (by exact HX.out _ (ZD.out.trans X8.out)) ?_;rintro e w9 ⟨rfl,x9⟩;have X9:Hid (Ext wd w9):=hid (X8.out.trans x9);clear x9)
 refine hKK.out _ _ (fun _=>?_) (fun hH=>?_)
 ·(exact⟨Ext.cell (X9.out) g0,Ext.cell (X9.out) g1,Ext.cell (X9.out) g2,Ext.cell (X9.out) g3,Ext.cell (X9.out) g4⟩)
 clear hHeld;have hHeld:=hH (by decide);clear hKK KK hH;(try dsimp only at hHeld)
 (try simp only[Act.put,q1,q2,q3])
 refine kU 7 3 rfl hHeld ?_
 (try simp only[Act.put,q1,q2,q3])
 refine kU 7 4 rfl hHeld ?_
 (try simp only[Act.put,q1,q2,q3])
 refine kU 7 5 rfl hHeld ?_
 (try simp only[Act.put,q1,q2,q3])
 refine wpAnyK_step (o:=_) (i:=6) rfl (by kernel_rfl) (fun KK hKK=>?_);go_simp;refine hKK.out _ _ (fun _=>?_) (fun hH=>?_)
 ·(exact⟨Ext.cell (X9.out) g0,Ext.cell (X9.out) g1,Ext.cell (X9.out) g2,Ext.cell (X9.out) g3,Ext.cell (X9.out) g4⟩)
 clear hHeld;have hHeld:=hH (by decide);clear hKK KK hH;(try dsimp only at hHeld)
 (try simp only[Act.put,q1,q2,q3])
 refine wpAnyK_step (o:=_) (i:=7) rfl (by kernel_rfl) (fun KK hKK=>?_);go_simp;refine hKK.out _ _ (fun h=>absurd rfl h) (fun _=>?_);clear hKK KK
 (try simp only[Act.put,q1,q2,q3])
 refine wpAnyK_done (by kernel_rfl) ?_ _;have XF:Hid (Ext wc w9):=hid (XD.out.trans X9.out);obtain⟨t0,t1,t2,-⟩:=cells3t (At.heap_ext HT1.out XF.out);obtain⟨k0,k1,k2,k3,k4,k5⟩:=HTA.out.ext XF.out;go_wp2;go_returns;exact⟨rfl,X1.out.trans (ZC.out.trans XF.out)⟩
end Go.Proofs.YtjaeedbjknejdaaGreatDoor.Ex

namespace Go.Proofs.YtjaeedbjknejdaaGreatDoor.Nm
open Go.RowKit Go.Sort Go.Lib Fx Lx Tr At
def enC (x:Lk × Value):List Value:=[.int .i64 x.1.a,.int .i64 x.1.b,.string x.1.ap,.string x.1.bp,x.2]
def ensC (L:List (Lk × Value)):List Value:=L.flatMap enC
theorem ensC_snoc (L:List (Lk × Value))(q:Lk × Value):ensC (L++[q])=ensC L++enC q:=by unfold ensC;simp
structure Doc (w0:World)(bb B:Nat)(nm:ByteArray)(dir:Bool)(w:World)(nv av cv lv:Value)(aw:List Value)(ks:List (Lk × Value))(S:St)(E:Int):Prop where
 blk:w.heap[bb]? = some (.cells #[.string nm,.bool dir,nv,.slice none 0 0,cv,av,lv,.int .i64 E] 95 (0,0))
 N:w.ownsRow B 59 6 nv S.N.length (ndsC S.N)
 A:w.ownsRow B 65 1 av S.A.length aw
 C:w.ownsRow B 63 2 cv S.C.length (clsC S.C)
 K:w.ownsRow B 164 5 lv S.K.length (ensC ks)
 At:AtLs w aw S.A
 Kl:ks.map Prod.fst=S.K
 Kt:AtLs w (ks.map Prod.snd) (S.K.map Lk.at')
 X:Ext w0 w
 Z:B<=w.heap.size
 lo:w0.heap.size<=bb/\bb < B
variable {w0 w w2:World} {bb B:Nat} {nm:ByteArray} {dir:Bool} {nv av cv lv:Value} {aw:List Value} {ks:List (Lk × Value)} {S:St} {E:Int}
theorem Doc.ext (h:Doc w0 bb B nm dir w nv av cv lv aw ks S E)(x:Ext w w2):Doc w0 bb B nm dir w2 nv av cv lv aw ks S E :=
 ⟨At.heap_ext h.blk x,At.own_ext h.N x,At.own_ext h.A x,At.own_ext h.C x,At.own_ext h.K x,h.At.ext x,h.Kl,h.Kt.ext x,h.X.trans x,Nat.le_trans h.Z x.size,h.lo⟩
theorem Doc.cells (h:Doc w0 bb B nm dir w nv av cv lv aw ks S E):w.cell? ⟨bb,0,none⟩=some (.string nm)/\w.cell? ⟨bb,1,none⟩=some (.bool dir)/\w.cell? ⟨bb,2,none⟩=some nv/\w.cell? ⟨bb,4,none⟩=some cv/\w.cell? ⟨bb,5,none⟩=some av/\w.cell? ⟨bb,6,none⟩=some lv/\w.cell? ⟨bb,7,none⟩=some (.int .i64 E):=by
 refine⟨?_,?_,?_,?_,?_,?_,?_⟩ <;> (rw[Lib.cell_of_heap h.blk];rfl)
theorem Doc.fz (h:Doc w0 bb B nm dir w nv av cv lv aw ks S E)(j:Nat):w.frozen? ⟨bb,j,none⟩=false:=Lib.frozen_of_heap h.blk j
structure KeepD (w w':World):Prop where
 size:w.heap.size<=w'.heap.size
 blk:∀ (k:Nat) (cs:Array Value) (E:TypeId) (fl:Nat × Nat),w.heap[k]? = some (.cells cs E fl)->E ≠ 95->E ≠ 59->E ≠ 65->E ≠ 63->E ≠ 164->w'.heap[k]? = some (.cells cs E fl)
theorem KeepD.refl (w:World):KeepD w w:=⟨Nat.le_refl _,fun _ _ _ _ h _ _ _ _ _=>h⟩
theorem KeepD.of {w w':World}(x:Ext w w'):KeepD w w':=⟨x.size,fun _ _ _ _ h _ _ _ _ _=>At.heap_ext h x⟩
theorem KeepD.trans {a b c:World}(h:KeepD a b)(k:KeepD b c):KeepD a c:=⟨Nat.le_trans h.size k.size,fun i cs E fl e h1 h2 h3 h4 h5=>k.blk i cs E fl (h.blk i cs E fl e h1 h2 h3 h4 h5) h1 h2 h3 h4 h5⟩
theorem KeepD.ext {a b c:World}(h:KeepD a b)(x:Ext b c):KeepD a c:=h.trans (.of x)
theorem KeepD.grown {w w':World}{row:Option Nat}{t:Option TypeId}(hg:w.grownBy w' row)(ht:TyOf w row t)(hne:t=none\/t=some 95\/t=some 59\/t=some 65\/t=some 63\/t=some 164):KeepD w w' :=
 ⟨hg.size,fun k cs E fl e h1 h2 h3 h4 h5=>blk_keep e hg ht (by
  rcases hne with rfl | rfl | rfl | rfl | rfl | rfl <;> simp only[tyO] <;> (intro e;first | (cases e;done) | (cases e;first | exact h1 rfl | exact h2 rfl | exact h3 rfl | exact h4 rfl | exact h5 rfl)))⟩
theorem KeepD.atL {w w':World}(h:KeepD w w'){v:Value}{L:List Two}(a:AtL w v L):AtL w' v L:=by
 obtain⟨p,c,h1,h2,h3⟩:=a
 have hb:∀ q,p=some q->∃ cs,w.heap[q.block]? = some (.cells cs 69 (0,0))/\w'.heap[q.block]? = some (.cells cs 69 (0,0)):=fun q e=>by
  obtain⟨cs,hc⟩:=h3.2 q e;exact⟨cs,hc,h.blk _ _ _ _ hc (by decide) (by decide) (by decide) (by decide) (by decide)⟩
 refine⟨p,c,h1,fun k hk=>?_,h3.1,fun q e=>?_⟩
 ·obtain⟨g,o,ha,c0,c1⟩:=h2 k hk;obtain⟨cs,hx,hy⟩:=hb _ ha;refine⟨g,o,ha,?_,?_⟩
  ·rw[Lib.cell_of_heap hy];rw[Lib.cell_of_heap hx] at c0;exact c0
  rw[Lib.cell_of_heap hy];rw[Lib.cell_of_heap hx] at c1;exact c1
 obtain⟨cs,_,hy⟩:=hb q e;exact⟨cs,hy⟩
theorem row_ownD {w w2:World}{row:Option Nat}{t:TypeId}{cs:Array Value}{B':Nat}{E:TypeId}{sz:Nat}{v:Value}{n:Nat}{xs:List Value}(h:w.ownsRow B' E sz v n xs)(hg:w.grownBy w2 row)(ht:TyOf w row (some t))(hne:E ≠ t)
  (hS:w2.heap[bb]? = some (.cells cs 95 (0,0))) (hE:E ≠ 95) (j:Nat) (u:Value):(w2.setCell ⟨bb,j,none⟩ u).ownsRow B' E sz v n xs :=
 row_keep (row_keep h hg ht (nope hne)) (set_grown w2 bb j u) (cel_ty hS) (nope hE)
theorem atLs_ownD {w w2:World}{row:Option Nat}{t:TypeId}{cs:Array Value}{aw:List Value}{A:List (List Two)}(h:AtLs w aw A)(hg:w.grownBy w2 row)(ht:TyOf w row (some t))(hne:69 ≠ t)
  (hS:w2.heap[bb]? = some (.cells cs 95 (0,0))) (j:Nat) (u:Value):AtLs (w2.setCell ⟨bb,j,none⟩ u) aw A :=
 (h.keep hg ht (nope hne)).keep (set_grown w2 bb j u) (cel_ty hS) (by decide)
theorem Doc.lo' {v:Value}{T:TypeId}{sz n:Nat}{xs:List Value}(h:Doc w0 bb B nm dir w nv av cv lv aw ks S E)(ho:w.ownsRow B T sz v n xs):∀ k,v.ownBlock=some k->w0.heap.size<=k:=fun k e=>by
 have:=(ho.lt k e).1;have:=h.lo;omega
theorem Doc.appN (h:Doc w0 bb B nm dir w nv av cv lv aw ks S E){v':Value}{n':Nat}(q:ByteArray × Int)(hn:n'=S.N.length+1)(ho:w2.ownsRow B 59 6 v' n' (ndsC S.N++ndC q))(hg:w.grownBy w2 nv.ownBlock):
  Doc w0 bb B nm dir (w2.setCell ⟨bb,2,none⟩ v') v' av cv lv (aw) (ks) { S with N:=S.N++[q] } E/\KeepD w (w2.setCell ⟨bb,2,none⟩ v'):=by
 have ht:=row_ty h.N;have hS:w2.heap[bb]? = some (.cells #[.string nm,.bool dir,nv,.slice none 0 0,cv,av,lv,.int .i64 E] 95 (0,0)):=cel_keep h.blk hg ht (nope (by decide));have hs:=set_grown w2 bb 2 v';have hst:=cel_ty hS;subst hn;refine⟨⟨by rw[blk_set hS];rfl,?_,row_ownD h.A hg ht (by decide) hS (by decide) _ _,row_ownD h.C hg ht (by decide) hS (by decide) _ _,row_ownD h.K hg ht (by decide) hS (by decide) _ _,atLs_ownD h.At hg ht (by decide) hS _ _,h.Kl,atLs_ownD h.Kt hg ht (by decide) hS _ _,ext_grown (ext_grown h.X hg (h.lo' h.N)) hs (fun k e=>by injection e with e;subst e;exact h.lo.1),Nat.le_trans h.Z (Nat.le_trans hg.size hs.size),h.lo⟩,(KeepD.grown hg ht (by simp)).trans (KeepD.grown hs hst (by simp))⟩;have:=row_keep ho hs hst (by decide);rw[ndsC_snoc];simpa using this
theorem Doc.appA (h:Doc w0 bb B nm dir w nv av cv lv aw ks S E){v':Value}{n':Nat}{v:Value}{L:List Two}(hv:AtL w v L)(hn:n'=S.A.length+1)(ho:w2.ownsRow B 65 1 v' n' (aw++[v]))(hg:w.grownBy w2 av.ownBlock):
  Doc w0 bb B nm dir (w2.setCell ⟨bb,5,none⟩ v') nv v' cv lv (aw++[v]) (ks) { S with A:=S.A++[L] } E/\KeepD w (w2.setCell ⟨bb,5,none⟩ v'):=by
 have ht:=row_ty h.A;have hS:w2.heap[bb]? = some (.cells #[.string nm,.bool dir,nv,.slice none 0 0,cv,av,lv,.int .i64 E] 95 (0,0)):=cel_keep h.blk hg ht (nope (by decide));have hs:=set_grown w2 bb 5 v';have hst:=cel_ty hS;subst hn;refine⟨⟨by rw[blk_set hS];rfl,row_ownD h.N hg ht (by decide) hS (by decide) _ _,?_,row_ownD h.C hg ht (by decide) hS (by decide) _ _,row_ownD h.K hg ht (by decide) hS (by decide) _ _,atLs_ownD (h.At.snoc hv) hg ht (by decide) hS _ _,h.Kl,atLs_ownD h.Kt hg ht (by decide) hS _ _,ext_grown (ext_grown h.X hg (h.lo' h.A)) hs (fun k e=>by injection e with e;subst e;exact h.lo.1),Nat.le_trans h.Z (Nat.le_trans hg.size hs.size),h.lo⟩,(KeepD.grown hg ht (by simp)).trans (KeepD.grown hs hst (by simp))⟩;have:=row_keep ho hs hst (by decide)
 simpa using this
theorem Doc.appC (h:Doc w0 bb B nm dir w nv av cv lv aw ks S E){v':Value}{n':Nat}(q:ByteArray × Int)(hn:n'=S.C.length+1)(ho:w2.ownsRow B 63 2 v' n' (clsC S.C++clC q))(hg:w.grownBy w2 cv.ownBlock):
  Doc w0 bb B nm dir (w2.setCell ⟨bb,4,none⟩ v') nv av v' lv (aw) (ks) { S with C:=S.C++[q] } E/\KeepD w (w2.setCell ⟨bb,4,none⟩ v'):=by
 have ht:=row_ty h.C;have hS:w2.heap[bb]? = some (.cells #[.string nm,.bool dir,nv,.slice none 0 0,cv,av,lv,.int .i64 E] 95 (0,0)):=cel_keep h.blk hg ht (nope (by decide));have hs:=set_grown w2 bb 4 v';have hst:=cel_ty hS;subst hn;refine⟨⟨by rw[blk_set hS];rfl,row_ownD h.N hg ht (by decide) hS (by decide) _ _,row_ownD h.A hg ht (by decide) hS (by decide) _ _,?_,row_ownD h.K hg ht (by decide) hS (by decide) _ _,atLs_ownD h.At hg ht (by decide) hS _ _,h.Kl,atLs_ownD h.Kt hg ht (by decide) hS _ _,ext_grown (ext_grown h.X hg (h.lo' h.C)) hs (fun k e=>by injection e with e;subst e;exact h.lo.1),Nat.le_trans h.Z (Nat.le_trans hg.size hs.size),h.lo⟩,(KeepD.grown hg ht (by simp)).trans (KeepD.grown hs hst (by simp))⟩;have:=row_keep ho hs hst (by decide);rw[clsC_snoc];simpa using this
theorem Doc.appK (h:Doc w0 bb B nm dir w nv av cv lv aw ks S E){v':Value}{n':Nat}{v:Value}(x:Lk)(hv:AtL w v x.at')(hn:n'=S.K.length+1)(ho:w2.ownsRow B 164 5 v' n' (ensC ks++enC (x,v)))(hg:w.grownBy w2 lv.ownBlock):
  Doc w0 bb B nm dir (w2.setCell ⟨bb,6,none⟩ v') nv av cv v' (aw) (ks++[(x,v)]) { S with K:=S.K++[x] } E/\KeepD w (w2.setCell ⟨bb,6,none⟩ v'):=by
 have ht:=row_ty h.K;have hS:w2.heap[bb]? = some (.cells #[.string nm,.bool dir,nv,.slice none 0 0,cv,av,lv,.int .i64 E] 95 (0,0)):=cel_keep h.blk hg ht (nope (by decide));have hs:=set_grown w2 bb 6 v';have hst:=cel_ty hS;subst hn;refine⟨⟨by rw[blk_set hS];rfl,row_ownD h.N hg ht (by decide) hS (by decide) _ _,row_ownD h.A hg ht (by decide) hS (by decide) _ _,row_ownD h.C hg ht (by decide) hS (by decide) _ _,?_,atLs_ownD h.At hg ht (by decide) hS _ _,by rw[List.map_append,h.Kl];rfl,?_,ext_grown (ext_grown h.X hg (h.lo' h.K)) hs (fun k e=>by injection e with e;subst e;exact h.lo.1),Nat.le_trans h.Z (Nat.le_trans hg.size hs.size),h.lo⟩,(KeepD.grown hg ht (by simp)).trans (KeepD.grown hs hst (by simp))⟩
 ·have:=row_keep ho hs hst (by decide);rw[ensC_snoc];simpa using this
 rw[List.map_append,List.map_append];exact atLs_ownD (h.Kt.snoc hv) hg ht (by decide) hS _ _
theorem Doc.setE (h:Doc w0 bb B nm dir w nv av cv lv aw ks S E)(E':Int):Doc w0 bb B nm dir (w.setCell ⟨bb,7,none⟩ (.int .i64 E')) nv av cv lv aw ks S E'/\KeepD w (w.setCell ⟨bb,7,none⟩ (.int .i64 E')):=by
 have hs:=set_grown w bb 7 (.int .i64 E');have ht:=cel_ty h.blk;exact⟨⟨by rw[blk_set h.blk];rfl,row_keep h.N hs ht (by decide),row_keep h.A hs ht (by decide),row_keep h.C hs ht (by decide),row_keep h.K hs ht (by decide),h.At.keep hs ht (by decide),h.Kl,h.Kt.keep hs ht (by decide),ext_grown h.X hs (fun k e=>by injection e with e;subst e;exact h.lo.1),Nat.le_trans h.Z hs.size,h.lo⟩,KeepD.grown hs ht (by simp)⟩
theorem Doc.setA (h:Doc w0 bb B nm dir w nv av cv lv aw ks S E){v':Value}{aw':List Value}{A':List (List Two)}(ho:w.ownsRow B 65 1 v' A'.length aw')(ha:AtLs w aw' A'):
  Doc w0 bb B nm dir (w.setCell ⟨bb,5,none⟩ v') nv v' cv lv aw' ks { S with A:=A' } E/\KeepD w (w.setCell ⟨bb,5,none⟩ v'):=by
 have hs:=set_grown w bb 5 v';have ht:=cel_ty h.blk;exact⟨⟨by rw[blk_set h.blk];rfl,row_keep h.N hs ht (by decide),row_keep ho hs ht (by decide),row_keep h.C hs ht (by decide),row_keep h.K hs ht (by decide),ha.keep hs ht (by decide),h.Kl,h.Kt.keep hs ht (by decide),ext_grown h.X hs (fun k e=>by injection e with e;subst e;exact h.lo.1),Nat.le_trans h.Z hs.size,h.lo⟩,KeepD.grown hs ht (by simp)⟩
theorem info_end : (Tryz.prog.info? 164).map (fun i=>(i.zero,i.size,i.bytes))=some (some (.agg #[.int .i64 0,.int .i64 0,.string ⟨#[]⟩,.string ⟨#[]⟩,.slice none 0 0]),5,72):=by kernel_rfl
def DocE (w0:World)(bb B:Nat)(nm:ByteArray)(dir:Bool)(w:World)(S:St)(E:Int):Prop:=∃ nv av cv lv aw ks,Doc w0 bb B nm dir w nv av cv lv aw ks S E
end Go.Proofs.YtjaeedbjknejdaaGreatDoor.Nm

namespace Go.Proofs.YtjaeedbjknejdaaGreatDoor.Nm
open Go.Lib Fx Lx Tr At
def mentE (n:ByteArray)(S:St)(E:Int):Int:=if E=0/\S.taken n=true then 6 else E
def mentS (n:ByteArray)(p:Pl)(S:St):Nat × St :=
 match S.idx n with
 | some v=>(v,S)
 | none=>(S.N.length,{ S with N:=S.N++[(n,p.c)],A:=S.A++[p.n] })
theorem ment_of (n:ByteArray)(p:Pl)(S:St):ment n p S=if mentE n S 0 ≠ 0 then .error (mentE n S 0) else .ok (mentS n p S):=by
 unfold ment mentE mentS;by_cases h:S.taken n=true
 ·simp[h]
 simp[h];cases S.idx n <;> rfl
theorem mentE_err {n:ByteArray}{p:Pl}{S:St}(h:mentE n S 0 ≠ 0):ment n p S=.error (mentE n S 0):=by rw[ment_of,if_pos h]
theorem mentE_ok {n:ByteArray}{p:Pl}{S:St}(h:mentE n S 0=0):ment n p S=.ok (mentS n p S):=by rw[ment_of,if_neg (by rw[h];decide)]
theorem Sml.mentS {m k:Nat}{S:St}(h:Sml m k S){n:ByteArray}{p:Pl}(hp:SmP k p)(hn:n.size<=64):Sml (m+1) k (mentS n p S).2/\(mentS n p S).1 < (mentS n p S).2.N.length/\(mentS n p S).2.C=S.C/\(mentS n p S).2.K=S.K:=by
 unfold Nm.mentS;split
 ·rename_i u hu;exact⟨h.mono (by omega) (Nat.le_refl _),idx_lt hu,rfl,rfl⟩
 refine⟨⟨?_,?_,h.c,?_,fun L hL=>?_,fun x hx=>?_,fun q hq=>?_,h.cc⟩,by simp,rfl,rfl⟩
 ·have:=h.n;simp;omega
 ·have:=h.a;simp[this]
 ·have:=h.l;show S.K.length<=m+1;omega
 ·rcases List.mem_append.1 hL with hL | hL
  ·exact h.at' L hL
  rw[List.mem_singleton.1 hL];exact hp.2.2.1
 ·obtain⟨h1,h2,h3,h4⟩:=h.kt x hx;exact⟨h1,by simp;omega,by simp;omega,h4⟩
 rcases List.mem_append.1 hq with hq | hq
 ·exact h.nn q hq
 rw[List.mem_singleton.1 hq];exact⟨hn,hp.1,hp.2.1⟩
def menL (p:Pl):List Two->St->Except Int (List Nat × St)
 | [],S=>.ok ([],S)
 | r::rs,S =>
  match ment r.1 p S with
  | .error e=>.error e
  | .ok (v,S) =>
   match menL p rs S with
   | .error e=>.error e
   | .ok (l,S)=>.ok (v::l,S)
def lnkL (own:List Two):Option (Nat × ByteArray)->List Two->List Nat->List Lk
 | last,r::rs,v::l=>(match last with | none=>[] | some q=>[⟨q.1,q.2,v,r.2,own⟩])++lnkL own (some (v,r.2)) rs l
 | _,_,_=>[]
theorem ment_K (n:ByteArray)(p:Pl)(S:St)(K:List Lk):ment n p { S with K:=K }=match ment n p S with
  | .error e=>.error e
  | .ok (v,S')=>.ok (v,{ S' with K:=K }):=by
 unfold ment St.taken St.idx;dsimp only;split
 ·rfl
 cases idxGo n 0 S.N <;> rfl
theorem ment_keepK {n:ByteArray}{p:Pl}{S S':St}{v:Nat}(h:ment n p S=.ok (v,S')):S'.K=S.K:=by
 unfold ment at h;split at h
 ·cases h
 split at h <;> (injection h with h;injection h with h1 h2;subst h2;rfl)
theorem menL_len {p:Pl}:∀ (rs:List Two) (S S':St) (l:List Nat),menL p rs S=.ok (l,S')->l.length=rs.length
 | [],S,S',l,h=>by unfold menL at h;injection h with h;injection h with h1 h2;subst h1;rfl
 | r::rs,S,S',l,h=>by
  unfold menL at h;split at h
  ·cases h
  ·split at h
   ·cases h
   rename_i l2 S3 h2;injection h with h;injection h with h1 h2';subst h1;simp[menL_len rs _ _ _ h2]
theorem chain_men (own:List Two)(p:Pl):∀ (rs:List Two) (last:Option (Nat × ByteArray)) (S:St) (K:List Lk),chainT own p rs last { S with K:=K }=match menL p rs S with
  | .error e=>.error e
  | .ok (l,S')=>.ok { S' with K:=K++lnkL own last rs l }
 | [],last,S,K=>by unfold chainT menL lnkL;simp
 | r::rs,last,S,K=>by
  unfold chainT menL;rw[ment_K];cases h:ment r.1 p S with
  | error e=>rfl
  | ok vs =>
   obtain⟨v,S1⟩:=vs;dsimp only;cases last with
   | none =>
    have ih:=chain_men own p rs (some (v,r.2)) S1 K;rw[ih];cases h2:menL p rs S1 with
    | error e=>rfl
    | ok q=>obtain⟨l,S2⟩:=q;simp[lnkL]
   | some q =>
    have ih:=chain_men own p rs (some (v,r.2)) S1 (K++[⟨q.1,q.2,v,r.2,own⟩]);dsimp only at ih ⊢;rw[ih];cases h2:menL p rs S1 with
    | error e=>rfl
    | ok q=>obtain⟨l,S2⟩:=q;simp[lnkL]
theorem menL_K {p:Pl}:∀ (rs:List Two) (S S':St) (l:List Nat),menL p rs S=.ok (l,S')->S'.K=S.K
 | [],S,S',l,h=>by unfold menL at h;injection h with h;injection h with h1 h2;subst h2;rfl
 | r::rs,S,S',l,h=>by
  unfold menL at h;split at h
  ·cases h
  ·rename_i v S1 hm;split at h
   ·cases h
   rename_i l2 S3 h2;injection h with h;injection h with h1 h2';subst h2';rw[menL_K rs _ _ _ h2,ment_keepK hm]
theorem chain_doc (own:List Two)(p:Pl)(rs:List Two)(S:St):chainT own p rs none S=match menL p rs S with
  | .error e=>.error e
  | .ok (l,S')=>.ok { S' with K:=S'.K++lnkL own none rs l }:=by
 have h:=chain_men own p rs none S S.K;rw[show({ S with K:=S.K }:St)=S from rfl] at h;rw[h];cases h2:menL p rs S with
 | error e=>rfl
 | ok q=>obtain⟨l,S2⟩:=q;dsimp only;rw[menL_K rs _ _ _ h2]
def docK (x:Stm):Int:=if x.kind=4 then 4 else if x.kind=2\/x.kind=3/\x.name.data.toList=[101,100,103,101] then 2 else 1
def docA (x:Stm):List Two:=if x.kind=4 then x.attrs.map fun q=>(x.name,q.2) else x.attrs
theorem chk_doc (x:Stm)(h:formB x=true):chkS x=chkGo (docK x) none (docA x):=by
 obtain⟨hk,h3,h4⟩:=form_kinds x h;unfold chkS kindS docK docA;rcases hk with e | e | e | e | e
 ·simp[e]
 ·simp[e]
 ·have hn:=h3 e;simp only[e];unfold formB at h;rw[if_neg (by omega),if_neg (by omega),if_pos e] at h;simp only[Bool.and_eq_true,Bool.or_eq_true,decide_eq_true_eq] at h;rcases h.2 with e2 | e2
  ·rw[e2];simp[nodeW]
  rw[e2];simp[nodeW]
 ·obtain⟨q,hq,-⟩:=h4 e;simp only[e,hq];simp[chkGo]
 unfold formB at h;rw[if_neg (by omega),if_neg (by omega),if_neg (by omega),if_neg (by omega),if_pos e] at h;simp only[Bool.and_eq_true,List.isEmpty_iff] at h;rw[h.2];simp[e,chkGo]
end Go.Proofs.YtjaeedbjknejdaaGreatDoor.Nm

namespace Go.Proofs.YtjaeedbjknejdaaGreatDoor.Nm
open Go.RowKit Go.Sort Go.Lib Fx Lx Tr At
theorem DocE.ext {w0:World}{bb B:Nat}{nm:ByteArray}{dir:Bool}{w w2:World}{S:St}{E:Int}(h:DocE w0 bb B nm dir w S E)(x:Ext w w2):DocE w0 bb B nm dir w2 S E:=by
 obtain⟨_,_,_,_,_,_,h⟩:=h;exact⟨_,_,_,_,_,_,h.ext x⟩
theorem DocE.X {w0:World}{bb B:Nat}{nm:ByteArray}{dir:Bool}{w:World}{S:St}{E:Int}(h:DocE w0 bb B nm dir w S E):Ext w0 w:=by
 obtain⟨_,_,_,_,_,_,h⟩:=h;exact h.X
def DocS (w0:World)(bb B:Nat)(nm:ByteArray)(dir:Bool)(w:World)(r:Except Int St):Prop :=
 match r with
 | .error er=>er ≠ 0/\∃ S,DocE w0 bb B nm dir w S er
 | .ok S=>DocE w0 bb B nm dir w S 0
theorem KeepD.own {w w':World}(h:KeepD w w'){B:Nat}{T:TypeId}{sz:Nat}{v:Value}{n:Nat}{xs:List Value}(o:w.ownsRow B T sz v n xs)(h1:T ≠ 95)(h2:T ≠ 59)(h3:T ≠ 65)(h4:T ≠ 63)(h5:T ≠ 164):w'.ownsRow B T sz v n xs:=by
 refine⟨o.1,?_⟩;rcases o.2 with h0 | ⟨g,cap,cur,hv,hb,hc,r⟩
 ·exact .inl h0
 exact .inr ⟨g,cap,cur,hv,hb,h.blk _ _ _ _ hc h1 h2 h3 h4 h5,r⟩
theorem KeepD.set {a b:World}(h:KeepD a b){g j:Nat}{u:Value}(hg:a.heap.size<=g):KeepD a (b.setCell ⟨g,j,none⟩ u) :=
 ⟨by have:=h.size;simpa [World.setCell] using this,fun k cs E fl e h1 h2 h3 h4 h5=>by
  rw[Below.heap_setCell _ _ _ _ (show k ≠ g from fun e2=>by have:=(Array.getElem?_eq_some_iff.1 e).1;omega)]
  exact h.blk k cs E fl e h1 h2 h3 h4 h5⟩
theorem Doc.other {w0 w:World}{bb B:Nat}{nm:ByteArray}{dir:Bool}{nv av cv lv:Value}{aw:List Value}{ks:List (Lk × Value)}{S:St}{E:Int}(h:Doc w0 bb B nm dir w nv av cv lv aw ks S E){cs:Array Value}{T:TypeId}{g j:Nat}{u:Value}(hb:w.heap[g]? = some (.cells cs T (0,0)))(hg:w0.heap.size<=g)
  (h1:T ≠ 95) (h2:T ≠ 59) (h3:T ≠ 65) (h4:T ≠ 63) (h5:T ≠ 164) (h6:T ≠ 69):Doc w0 bb B nm dir (w.setCell ⟨g,j,none⟩ u) nv av cv lv aw ks S E:=by
 have hs:=set_grown w g j u;have ht:=cel_ty hb;exact⟨cel_keep h.blk hs ht (nope h1.symm),row_keep h.N hs ht (nope h2.symm),row_keep h.A hs ht (nope h3.symm),row_keep h.C hs ht (nope h4.symm),row_keep h.K hs ht (nope h5.symm),h.At.keep hs ht (nope h6.symm),h.Kl,h.Kt.keep hs ht (nope h6.symm),ext_grown h.X hs (fun k e=>by injection e with e;subst e;exact hg),Nat.le_trans h.Z hs.size,h.lo⟩
def MenR (RM:Except Int (List Nat × St))(p:Pl)(rs:List Two)(i:Nat)(l:List Nat)(S:St)(E:Int):Prop :=
 (E=0->RM=match menL p (rs.drop i) S with
  | .error e=>.error e
  | .ok q=>.ok (l++q.1,q.2))/\(E ≠ 0->RM=.error E)
theorem MenR.start (p:Pl)(rs:List Two)(S:St):MenR (menL p rs S) p rs 0 [] S 0:=⟨fun _=>by rw[List.drop_zero];cases menL p rs S <;> rfl,fun h=>absurd rfl h⟩
theorem MenR.step {RM:Except Int (List Nat × St)}{p:Pl}{rs:List Two}{i:Nat}{l:List Nat}{S:St}(h:MenR RM p rs i l S 0)(hi:i < rs.length):MenR RM p rs (i+1) (l++[(mentS rs[i].1 p S).1]) (mentS rs[i].1 p S).2 (mentE rs[i].1 S 0):=by
 have h0:=h.1 rfl;rw[List.drop_eq_getElem_cons hi] at h0;unfold menL at h0;refine⟨fun he=>?_,fun he=>?_⟩
 ·rw[mentE_ok he] at h0;rw[h0];dsimp only;cases menL p (rs.drop (i+1)) (mentS rs[i].1 p S).2 with
  | error e=>rfl
  | ok q=>simp
 rw[mentE_err he] at h0;exact h0
theorem MenR.done {RM:Except Int (List Nat × St)}{p:Pl}{rs:List Two}{l:List Nat}{S:St}(h:MenR RM p rs rs.length l S 0):RM=.ok (l,S):=by
 have h0:=h.1 rfl;rw[List.drop_length] at h0;rw[h0];unfold menL;simp
def LnkR (T K:List Lk)(own:List Two)(rs:List Two)(l:List Nat)(i:Nat):Prop:=K++lnkL own (some (l.getD (i - 1) 0,(rs.getD (i - 1) (⟨#[]⟩,⟨#[]⟩)).2)) (rs.drop i) (l.drop i)=T
theorem LnkR.start (K:List Lk)(own:List Two)(rs:List Two)(l:List Nat)(hl:l.length=rs.length):LnkR (K++lnkL own none rs l) K own rs l 1:=by
 unfold LnkR;cases rs with
 | nil =>
  have:l=[]:=List.eq_nil_of_length_eq_zero hl;subst this;simp[lnkL]
 | cons r rs =>
  cases l with
  | nil=>simp at hl
  | cons v l=>simp[lnkL]
theorem LnkR.step {T K:List Lk}{own:List Two}{rs:List Two}{l:List Nat}{i:Nat}(h:LnkR T K own rs l i)(hl:l.length=rs.length)(h1:1<=i)(hi:i < rs.length):
  LnkR T (K++[⟨l[i - 1]'(by omega),(rs[i - 1]'(by omega)).2,l[i]'(by omega),rs[i].2,own⟩]) own rs l (i+1):=by
 have hil:i < l.length:=by omega
 unfold LnkR at h ⊢;rw[List.drop_eq_getElem_cons hi,List.drop_eq_getElem_cons hil] at h;unfold lnkL at h;dsimp only at h;have g0:l.getD (i - 1) 0=l[i - 1]'(by omega):=by rw[List.getD_eq_getElem?_getD,List.getElem?_eq_getElem (by omega)];rfl
 have g1:rs.getD (i - 1) (⟨#[]⟩,⟨#[]⟩)=rs[i - 1]'(by omega):=by rw[List.getD_eq_getElem?_getD,List.getElem?_eq_getElem (by omega)];rfl
 have g2:l.getD i 0=l[i]:=by rw[List.getD_eq_getElem?_getD,List.getElem?_eq_getElem hil];rfl
 have g3:rs.getD i (⟨#[]⟩,⟨#[]⟩)=rs[i]:=by rw[List.getD_eq_getElem?_getD,List.getElem?_eq_getElem hi];rfl
 rw[g0,g1] at h;rw[Nat.add_sub_cancel,g2,g3,List.append_assoc];exact h
theorem LnkR.done {T K:List Lk}{own:List Two}{rs:List Two}{l:List Nat}{i:Nat}(h:LnkR T K own rs l i)(hi:rs.length<=i):T=K:=by
 unfold LnkR at h;rw[List.drop_eq_nil_of_le hi] at h;rw[<-h];unfold lnkL;simp
theorem chain_edges {own:List Two}{p:Pl}{rs:List Two}{S S':St}{l:List Nat}(h:menL p rs S=.ok (l,S')):chainT own p rs none S=.ok { S' with K:=S'.K++lnkL own none rs l }:=by rw[chain_doc,h]
theorem chain_err {own:List Two}{p:Pl}{rs:List Two}{S:St}{e:Int}(h:menL p rs S=.error e):chainT own p rs none S=.error e:=by rw[chain_doc,h]
end Go.Proofs.YtjaeedbjknejdaaGreatDoor.Nm

namespace Go.Proofs.YtjaeedbjknejdaaGreatDoor.Nm
open Go.Lib Fx Lx Tr At
theorem portsGo_nm : ∀ (l:List ByteArray) (out:List Prt),(∀ q ∈ out,q.1.size<=16)->∀ q ∈ (portsGo l out).1,q.1.size<=16
 | [],out,h,q,hq=>h q hq
 | p::r,out,h,q,hq=>by
  unfold portsGo at hq;split at hq
  ·cases hq
  split at hq
  ·cases hq
  split at hq
  ·cases hq
  rename_i hn;split at hq
  ·cases hq
  split at hq
  ·cases hq
  refine portsGo_nm r _ (fun y hy=>?_) q hq;rcases List.mem_append.1 hy with hy | hy
  ·exact h y hy
  ·rw[List.mem_singleton.1 hy];exact name16 (by cases hb:nameB (nmOf p).data.toList;exact absurd hb hn;rfl)
theorem portsV_nm (s:ByteArray):∀ q ∈ (portsV s).1,q.1.size<=16:=fun q hq=>by
 unfold portsV at hq;split at hq
 ·cases hq
 exact portsGo_nm _ _ (fun y hy=>by cases hy) q hq
theorem getT_sz {L:List Two}{x:ByteArray}(h:∀ r ∈ L,r.2.size<=64):(getT L x).1.size<=64:=by
 cases hg:(getT L x).2
 ·rw[getT_false hg];decide
 have hm:=(mrgT_iff x (getT L x).1 L).2 (Prod.ext rfl hg);exact h _ (mrgT_mem hm)
theorem labelT_sz {L:List Two}{o:ByteArray}(h:∀ r ∈ L,r.2.size<=64)(ho:o.size<=64):(labelT L o).size<=64:=by
 unfold labelT;split
 ·exact getT_sz h
 exact ho
theorem finNs_mem : ∀ {N:List (ByteArray × Int)} {A:List (List Two)} {x:Nd},x ∈ finNs N A->∃ q ∈ N,∃ l ∈ A,x=finN q l
 | [],_,x,h=>by unfold finNs at h;cases h
 | q::r,[],x,h=>by unfold finNs at h;cases h
 | q::r,l::s,x,h=>by
  unfold finNs at h;rcases List.mem_cons.1 h with rfl | h
  ·exact⟨q,by simp,l,by simp,rfl⟩
  ·obtain⟨q',h1,l',h2,h3⟩:=finNs_mem h;exact⟨q',by simp[h1],l',by simp[h2],h3⟩
theorem finNs_len : ∀ (N:List (ByteArray × Int)) (A:List (List Two)),A.length=N.length->(finNs N A).length=N.length
 | [],_,_=>by unfold finNs;rfl
 | q::r,[],h=>by cases h
 | q::r,l::s,h=>by
  unfold finNs;rw[List.length_cons,List.length_cons,finNs_len r s (by simpa using h)]
theorem finEs_mem : ∀ {L:List Nd} {K:List Lk} {E:List Ed},finEs L K=some E->E.length=K.length/\∀ e ∈ E,∃ x ∈ K,finE L x=some e
 | L,[],E,h=>by
  unfold finEs at h;injection h with h;subst h;exact⟨rfl,fun e he=>by cases he⟩
 | L,x::r,E,h=>by
  unfold finEs at h;split at h
  ·cases h
  ·rename_i e he;cases hr:finEs L r with
   | none=>rw[hr] at h;cases h
   | some F =>
    rw[hr] at h;injection h with h;subst h;obtain⟨h1,h2⟩:=finEs_mem hr;refine⟨by simp[h1],fun y hy=>?_⟩;rcases List.mem_cons.1 hy with rfl | hy
    ·exact⟨x,by simp,he⟩
    ·obtain⟨z,hz,hze⟩:=h2 y hy;exact⟨z,by simp[hz],hze⟩
theorem finE_label {L:List Nd}{x:Lk}{e:Ed}(h:finE L x=some e):e.label=labelT x.at' ⟨#[]⟩:=by
 unfold finE at h;dsimp only at h;split at h
 ·cases h
 injection h with h;rw[<-h]
theorem grSm_of {nm:ByteArray}{dir:Bool}{m k:Nat}{S:St}{E:List Ed}(hn:nm.size<=64)(h:Sml m k S)(hm:m<=1000000000)(hk:k<=10000)(he:finEs (finNs S.N S.A) S.K=some E):GrSm ⟨nm,dir,finNs S.N S.A,E,S.C⟩:=by
 obtain⟨h1,h2⟩:=finEs_mem he;have h3:=h.n;have h4:=h.c;have h5:=h.l;refine⟨by show nm.size<=_;omega,?_,?_,by show S.C.length<=_;omega,fun x hx=>?_,fun x hx=>?_,fun x hx=>?_⟩
 ·show(finNs S.N S.A).length<=_;rw[finNs_len _ _ h.a];omega
 ·show E.length<=_;omega
 ·obtain⟨q,hq,l,hl,rfl⟩:=finNs_mem hx;have e1:=(h.nn q hq).1;have e2:=(h.at' l hl).2;have e3:=labelT_sz (L:=l) (o:=q.1) (fun r hr=>(e2 r hr).2) e1;have e4:=portsV_len (getT l kPorts).1;refine⟨by show q.1.size<=_;omega,by show(labelT l q.1).size<=_;omega,by show(portsV (getT l kPorts).1).1.length<=_;omega,fun p hp=>?_⟩;have:=portsV_nm _ p hp;omega
 ·have:=(h.cc x hx).1;omega
 obtain⟨y,hy,he⟩:=h2 x hx;rw[finE_label he];have e2:=(h.kt y hy).1.2;have:=labelT_sz (L:=y.at') (o:=⟨#[]⟩) (fun r hr=>(e2 r hr).2) (by decide);omega
end Go.Proofs.YtjaeedbjknejdaaGreatDoor.Nm

namespace Go.Proofs.YtjaeedbjknejdaaGreatDoor.Nm
open Go.RowKit Go.Sort Go.Lib Fx Lx Tr At
variable {w0 w w2:World} {bb m1 m2 B gg gb:Nat} {G:Obj} {nm:ByteArray} {dir:Bool} {nv av cv lv:Value} {aw:List Value} {ks:List (Lk × Value)} {S:St} {NV:List (Nd × Value)} {FE:Option (List Ed)} {j:Nat} {E:List Ed} {ev:Value}
theorem finEs_cons (L:List Nd)(x:Lk)(r:List Lk):finEs L (x::r)=match finE L x with | none=>none | some e=>(finEs L r).map (e :: ·):=by rw[finEs];rfl
theorem finNs_ports {m k:Nat}{S:St}(h:Sml m k S):∀ x ∈ finNs S.N S.A,x.ports.length<=1000000000:=fun x hx=>by
 obtain⟨q,hq,l,hl,rfl⟩:=finNs_mem hx;have e2:=(h.at' l hl).2;have e4:=portsV_len (getT l kPorts).1;show(portsV (getT l kPorts).1).1.length<=_;omega
theorem finE_at {NV:List (Nd × Value)}{x:Lk}(ha:x.a < NV.length)(hb:x.b < NV.length):finE (NV.map Prod.fst) x=if portT NV[x.a].1.ports x.ap = -2\/portT NV[x.b].1.ports x.bp = -2 then none else some ⟨x.a,x.b,portT NV[x.a].1.ports x.ap,portT NV[x.b].1.ports x.bp,labelT x.at' ⟨#[]⟩,numK 2 x.at' kWeight,numK 2 x.at' kLen⟩:=by
 have e1:((NV.map Prod.fst)[x.a]?.map Nd.ports).getD []=NV[x.a].1.ports:=by rw[List.getElem?_map,List.getElem?_eq_getElem ha];rfl
 have e2:((NV.map Prod.fst)[x.b]?.map Nd.ports).getD []=NV[x.b].1.ports:=by rw[List.getElem?_map,List.getElem?_eq_getElem hb];rfl
 unfold finE;rw[e1,e2]
theorem cells7v {w:World}{g:Nat}{T:TypeId}{c0 c1 c2 c3 c4 c5 c6:Value}(h:w.heap[g]? = some (.cells #[c0,c1,c2,c3,c4,c5,c6] T (0,0))):
  w.cell? ⟨g,0,none⟩=some c0/\w.cell? ⟨g,1,none⟩=some c1/\w.cell? ⟨g,2,none⟩=some c2/\w.cell? ⟨g,3,none⟩=some c3/\w.cell? ⟨g,4,none⟩=some c4/\w.cell? ⟨g,5,none⟩=some c5/\w.cell? ⟨g,6,none⟩=some c6/\∀ j,w.frozen? ⟨g,j,none⟩=false:=by
 refine⟨?_,?_,?_,?_,?_,?_,?_,fun j=>Lib.frozen_of_heap h j⟩ <;> (rw[Lib.cell_of_heap h];rfl)
theorem set23 {w:World}{g:Nat}{T:TypeId}{c0 c1 c2 c3 c4 c5 c6:Value}(h:w.heap[g]? = some (.cells #[c0,c1,c2,c3,c4,c5,c6] T (0,0)))(v2 v3:Value):
  ((w.setCell ⟨g,2,none⟩ v2).setCell ⟨g,3,none⟩ v3).heap[g]? = some (.cells #[c0,c1,v2,v3,c4,c5,c6] T (0,0)):=by
 have h1:(w.setCell ⟨g,2,none⟩ v2).heap[g]? = some (.cells #[c0,c1,v2,c3,c4,c5,c6] T (0,0)):=blk_set h 2 v2;exact blk_set h1 3 v3
end Go.Proofs.YtjaeedbjknejdaaGreatDoor.Nm
