/- Packed texts: TreOpen, ExpCnt, ExpDec, ExpPrt, ExpRst, ExpRsu -/
import Derived.Test.YtjaeedbjknejdaaGreatDoorPd27
import Derived.Deep.Slices
import Derived.OpenShut
import Derived.Lib.SmallJoins
set_option linter.unusedVariables false
set_option linter.unusedSimpArgs false
set_option maxHeartbeats 16000000
set_option maxRecDepth 100000
namespace Go.Proofs.YtjaeedbjknejdaaGreatDoor.Tr
open Go.RowKit Go.Lib Fx Lx Go.ChangeShapes Go.WideShapes Go.Deep
theorem cTwo : Tryz.prog.cellsOf 69=2:=by kernel_rfl
theorem cRef : Tryz.prog.cellsOf 90=2:=by kernel_rfl
theorem cStm : Tryz.prog.cellsOf 67=5:=by kernel_rfl
theorem cInt : Tryz.prog.cellsOf 3=1:=by kernel_rfl
theorem cStr : Tryz.prog.cellsOf 9=1:=by kernel_rfl
theorem cSl1 : Tryz.prog.cellsOf 64=1:=by kernel_rfl
theorem cSl2 : Tryz.prog.cellsOf 65=1:=by kernel_rfl
theorem cSl3 : Tryz.prog.cellsOf 31=1:=by kernel_rfl
theorem sizeTwo_map {H:Type}(F:Nat->Two)(D:Nat->DataW H):∀ l:List Nat,(∀ i ∈ l,(F i).1.size+(F i).2.size+1<=Rows.uptoBulk (D i))->sizeTwo (l.map F)<=Rows.uptoBulkAll (l.map D)
 | [],_=>by simp[sizeTwo]
 | i::r,h=>by
  rw[List.map_cons,List.map_cons,sizeTwo,Rows.uptoBulkAll];have h1:=h i List.mem_cons_self;have h2:=sizeTwo_map F D r (fun j hj=>h j (List.mem_cons_of_mem _ hj));omega
theorem sizeL_map {H:Type}(F:Nat->Stm)(D:Nat->DataW H):∀ l:List Nat,(∀ i ∈ l,sizeS (F i)<=Rows.uptoBulk (D i))->sizeL (l.map F)<=Rows.uptoBulkAll (l.map D)
 | [],_=>by simp[sizeL]
 | i::r,h=>by
  rw[List.map_cons,List.map_cons,sizeL,Rows.uptoBulkAll];have h1:=h i List.mem_cons_self;have h2:=sizeL_map F D r (fun j hj=>h j (List.mem_cons_of_mem _ hj));omega
theorem bulk_mem {H:Type}:∀ {l:List (DataW H)} {d:DataW H},d ∈ l->Rows.uptoBulk d<=Rows.uptoBulkAll l
 | x::r,d,h=>by
  rw[Rows.uptoBulkAll];rcases List.mem_cons.1 h with rfl | h
  ·omega
  ·have:=bulk_mem h;omega
theorem add_offk (g o k j m:Nat):((⟨g,o,none⟩:Addr).add (k * m)).add j=⟨g,o+k * m+j,none⟩:=by
 simp only[Addr.add];by_cases h1:k * m=0
 ·rw[h1];by_cases h2:j=0 <;> simp[h2]
 by_cases h2:j=0 <;> simp[h1,h2]
section
variable {H:Type} {enc:TypeId × Value->H} {W:World} {base:Nat} {sp:Nat->Bool} {held:Bool}
theorem open_attr {n:Nat}{cs:List Value}{x:DataW H × List MemPlace}
  (h:DataW.trod enc Tryz.prog W base sp held n 69 cs=some x):∃ (k v:ByteArray),cs=[.string k,.string v]/\x.1=.agg [.lit (.string k.data.toList),.lit (.string v.data.toList)]:=by
 obtain⟨xs,n',_,rfl,hlen,hxl,hg⟩:=DataW.trod_struct Tryz.underlying69 h;rw[cTwo] at hlen;have hxl2:xs.length=2:=hxl;clear hxl
 match cs,hlen with
 | [a,b],_ =>
  obtain⟨y0,y1,rfl⟩:∃ y0 y1,xs=[y0,y1]:=by
   match xs,hxl2 with
   | [y0,y1],_=>exact⟨y0,y1,rfl⟩
  have h0:DataW.trod enc Tryz.prog W base sp held n' 9 [a]=some y0:=by simpa [cStr] using hg 0 _ rfl
  have h1:DataW.trod enc Tryz.prog W base sp held n' 9 [b]=some y1:=by simpa [cStr] using hg 1 _ rfl
  obtain⟨k,e0,r0,_⟩:=DataW.trod_string Tryz.underlying9 h0;obtain⟨v,e1,r1,_⟩:=DataW.trod_string Tryz.underlying9 h1;simp only[List.cons.injEq,and_true] at e0 e1;subst e0;subst e1;subst r0;subst r1;exact⟨k,v,rfl,rfl⟩
theorem open_ref {n:Nat}{cs:List Value}{x:DataW H × List MemPlace}
  (h:DataW.trod enc Tryz.prog W base sp held n 90 cs=some x):∃ (k v:ByteArray),cs=[.string k,.string v]/\x.1=.agg [.lit (.string k.data.toList),.lit (.string v.data.toList)]:=by
 obtain⟨xs,n',_,rfl,hlen,hxl,hg⟩:=DataW.trod_struct Tryz.underlying90 h;rw[cRef] at hlen;have hxl2:xs.length=2:=hxl;clear hxl
 match cs,hlen with
 | [a,b],_ =>
  obtain⟨y0,y1,rfl⟩:∃ y0 y1,xs=[y0,y1]:=by
   match xs,hxl2 with
   | [y0,y1],_=>exact⟨y0,y1,rfl⟩
  have h0:DataW.trod enc Tryz.prog W base sp held n' 9 [a]=some y0:=by simpa [cStr] using hg 0 _ rfl
  have h1:DataW.trod enc Tryz.prog W base sp held n' 9 [b]=some y1:=by simpa [cStr] using hg 1 _ rfl
  obtain⟨k,e0,r0,_⟩:=DataW.trod_string Tryz.underlying9 h0;obtain⟨v,e1,r1,_⟩:=DataW.trod_string Tryz.underlying9 h1;simp only[List.cons.injEq,and_true] at e0 e1;subst e0;subst e1;subst r0;subst r1;exact⟨k,v,rfl,rfl⟩
theorem lt_of_cell {w:World}{g o:Nat}{v:Value}(h:w.cell? ⟨g,o,none⟩=some v):g < w.heap.size:=World.block_lt_of_cell? _ _ h
theorem open_twos (t e:TypeId)(hu:Tryz.prog.underlying t=some (.slice e))(hc2:Tryz.prog.cellsOf e=2)
  (ho:∀ {n:Nat} {cs:List Value} {x:DataW H × List MemPlace},DataW.trod enc Tryz.prog W base sp held n e cs=some x->∃ (k v:ByteArray),cs=[.string k,.string v]/\x.1=.agg [.lit (.string k.data.toList),.lit (.string v.data.toList)])
  {fuel:Nat} {cs:List Value} {x:DataW H × List MemPlace} (h:DataW.trod enc Tryz.prog W base sp held fuel t cs=some x) :
  ∃ (a:Option Addr) (L:List Two) (cap:Nat),cs=[.slice a L.length cap]/\TwoAt W.heap.size W a L/\L.length<=cap/\cap<=maxLen/\sizeTwo L<=Rows.uptoBulk x.1:=by
 rcases open_slice hu h with⟨rfl,rfl⟩ | ⟨a,len,cap,m,n,D,Pl,rfl,_,hl,hm,hmm,hxx,hx⟩
 ·exact⟨none,[],0,rfl,(fun k h=>absurd h (Nat.not_lt_zero _)),Nat.le_refl _,Nat.zero_le _,by simp[sizeTwo]⟩
 have hlm:len<=m:=by rw[hmm];split <;> omega
 rw[hc2] at hx
 have hone:∀ i,i < len->∃ q:Two,q.1.size+q.2.size+1<=Rows.uptoBulk (D i)/\∃ g o,a=⟨g,o,none⟩/\W.cell? ⟨g,o+i * 2,none⟩=some (.string q.1)/\W.cell? ⟨g,o+i * 2+1,none⟩=some (.string q.2):=fun i hi=>by
  obtain⟨cs',h1,h2⟩:=hx i (by omega);obtain⟨k,v,rfl,hd⟩:=ho h2;obtain⟨_,_,hc⟩:=World.cells?_some h1;have c0:=hc 0 (by omega);have c1:=hc 1 (by omega);obtain⟨g,o,spot⟩:=a
  have hspot:spot=none:=by
   obtain⟨cs0,q1,q2⟩:=hx 0 (by omega);obtain⟨k0,v0,rfl,_⟩:=ho q2;obtain⟨_,_,hc0⟩:=World.cells?_some q1;have h:=World.cell?_spot (show W.cell? _=some (.string k0) from hc0 0 (by omega))
   simpa [Addr.add] using h
  subst hspot;rw[add_offk] at c0 c1;have hd':D i=.agg [.lit (.string k.data.toList),.lit (.string v.data.toList)]:=hd;refine⟨(k,v),?_,g,o,rfl,c0,c1⟩;rw[hd'];simp only[Rows.uptoBulk,Rows.uptoBulkAll];rw[<-size_len,<- size_len];omega
 obtain⟨F,hF⟩:=choose_lt (α := Two) hone;refine⟨some a,(List.range len).map F,cap,by simp,?_,by simp;omega,hm,?_⟩
 ·intro k hk;have hk':k < len:=by simpa using hk
  obtain⟨_,g,o,rfl,c0,c1⟩:=hF k hk';exact⟨g,o,rfl,lt_of_cell c0,by simpa using c0,by simpa using c1⟩
 rw[hxx];simp only[Rows.uptoBulk];have:=sizeTwo_map F D (List.range len) (fun i hi=>(hF i (List.mem_range.1 hi)).1);omega
instance : Inhabited Stm:=⟨.mk 0 ByteArray.empty [] [] []⟩
theorem open_stms : ∀ (M:Nat) {fuel:Nat} {cs:List Value} {x:DataW H × List MemPlace},Rows.uptoBulk x.1<=M->DataW.trod enc Tryz.prog W base sp held fuel 31 cs=some x ->
  ∃ (b:Option Addr) (L:List Stm) (cap:Nat),cs=[.slice b L.length cap]/\StmsAt W.heap.size W b L/\L.length<=maxLen/\sizeL L<=Rows.uptoBulk x.1
 | 0,fuel,cs,x,hM,h=>by
  rcases open_slice Tryz.underlying31 h with⟨rfl,rfl⟩ | ⟨a,len,cap,m,n,D,Pl,rfl,_,hl,hm,hmm,hxx,hx⟩
  ·simp[Rows.uptoBulk] at hM
  ·rw[hxx] at hM;simp[Rows.uptoBulk] at hM
 | M+1,fuel,cs,x,hM,h=>by
  rcases open_slice Tryz.underlying31 h with⟨rfl,rfl⟩ | ⟨a,len,cap,m,n,D,Pl,rfl,_,hl,hm,hmm,hxx,hx⟩
  ·exact⟨none,[],0,rfl,by rw[StmsAt];trivial,Nat.zero_le _,by simp[sizeL]⟩
  ·have hlm:len<=m:=by rw[hmm];split <;> omega
   rw[cStm] at hx
   have hbk:∀ i,i < len->Rows.uptoBulk (D i)<=M:=fun i hi=>by
    have h1:=bulk_mem (List.mem_map.2 ⟨i,List.mem_range.2 hi,rfl⟩:D i ∈ (List.range len).map D);rw[hxx] at hM;simp only[Rows.uptoBulk] at hM;omega
   have hone:∀ i,i < len->∃ s:Stm,sizeS s<=Rows.uptoBulk (D i)/\∃ g o,a=⟨g,o,none⟩/\g < W.heap.size/\StmAt W.heap.size W g (o+i * 5) s:=fun i hi=>by
    have hstm:∀ {cs':List Value} {y:DataW H × List MemPlace} {n:Nat},Rows.uptoBulk y.1<=M->DataW.trod enc Tryz.prog W base sp held n 67 cs'=some y ->
      ∃ (k:Int) (nm:ByteArray) (r:Option Addr) (rs:List Two) (rc:Nat) (a:Option Addr) (al:List Two) (ac:Nat) (b:Option Addr) (body:List Stm) (bc:Nat),cs'=[.int .i64 k,.string nm,.slice r rs.length rc,.slice a al.length ac,.slice b body.length bc] /\
       TwoAt W.heap.size W r rs/\TwoAt W.heap.size W a al/\StmsAt W.heap.size W b body/\rs.length<=rc/\al.length<=ac/\rc<=maxLen/\ac<=maxLen/\body.length<=maxLen/\sizeS (.mk k nm rs al body)<=Rows.uptoBulk y.1:=fun {cs' y n} hb h=>by
     obtain⟨xs,n',_,rfl,hlen,hxl,hg⟩:=DataW.trod_struct Tryz.underlying67 h;rw[cStm] at hlen;have hxl5:xs.length=5:=hxl;clear hxl
     match cs',hlen with
     | [p0,p1,p2,p3,p4],_ =>
      obtain⟨y0,y1,y2,y3,y4,rfl⟩:∃ y0 y1 y2 y3 y4,xs=[y0,y1,y2,y3,y4]:=by
       match xs,hxl5 with
       | [y0,y1,y2,y3,y4],_=>exact⟨y0,y1,y2,y3,y4,rfl⟩
      have g0:DataW.trod enc Tryz.prog W base sp held n' 3 [p0]=some y0:=by simpa [cInt] using hg 0 _ rfl
      have g1:DataW.trod enc Tryz.prog W base sp held n' 9 [p1]=some y1:=by simpa [cStr] using hg 1 _ rfl
      have g2:DataW.trod enc Tryz.prog W base sp held n' 64 [p2]=some y2:=by simpa [cSl1] using hg 2 _ rfl
      have g3:DataW.trod enc Tryz.prog W base sp held n' 65 [p3]=some y3:=by simpa [cSl2] using hg 3 _ rfl
      have g4:DataW.trod enc Tryz.prog W base sp held n' 31 [p4]=some y4:=by simpa [cSl3] using hg 4 _ rfl
      obtain⟨k,e0,r0,_⟩:=DataW.trod_int Tryz.underlying3 g0;obtain⟨nm,e1,r1,_⟩:=DataW.trod_string Tryz.underlying9 g1;obtain⟨r,rs,rc,e2,i2,l2,m2,s2⟩:=open_twos 64 90 Tryz.underlying64 cRef open_ref g2;obtain⟨a,al,ac,e3,i3,l3,m3,s3⟩:=open_twos 65 69 Tryz.underlying65 cTwo open_attr g3;simp only[List.map_cons,List.map_nil,Rows.uptoBulk,Rows.uptoBulkAll] at hb;obtain⟨b,body,bc,e4,i4,m4,s4⟩:=open_stms M (by omega) g4;simp only[List.cons.injEq,and_true] at e0 e1 e2 e3 e4;subst e0;subst e1;subst e2;subst e3;subst e4;subst r0;subst r1;refine⟨k,nm,r,rs,rc,a,al,ac,b,body,bc,rfl,i2,i3,i4,l2,l3,m2,m3,m4,?_⟩;simp only[List.map_cons,List.map_nil,Rows.uptoBulk,Rows.uptoBulkAll,sizeS];rw[<-size_len];omega
    obtain⟨cs',h1,h2⟩:=hx i (by omega);obtain⟨k,nm,r,rs,rc,a',al,ac,b,body,bc,rfl,i2,i3,i4,l2,l3,m2,m3,m4,hsz⟩:=hstm (hbk i hi) h2;obtain⟨_,_,hc⟩:=World.cells?_some h1;have c0:=hc 0 (by omega);have c1:=hc 1 (by omega);have c2:=hc 2 (by omega);have c3:=hc 3 (by omega);have c4:=hc 4 (by omega);obtain⟨g,o,spot⟩:=a
    have hspot:spot=none:=by
     obtain⟨cs0,q1,q2⟩:=hx 0 (by omega);obtain⟨k0,nm0,r0,rs0,rc0,a0,al0,ac0,b0,body0,bc0,rfl,_⟩:=hstm (hbk 0 (by omega)) q2;obtain⟨_,_,hc0⟩:=World.cells?_some q1;have h:=World.cell?_spot (show W.cell? _=some (.int .i64 k0) from hc0 0 (by omega))
     simpa [Addr.add] using h
    subst hspot;rw[add_offk] at c0 c1 c2 c3 c4;refine⟨.mk k nm rs al body,hsz,g,o,rfl,lt_of_cell c1,?_⟩;rw[StmAt];exact⟨r,rc,a',ac,b,bc,c0,c1,c2,c3,c4,i2,i3,i4,l2,l3,m2,m3,m4⟩
   obtain⟨F,hF⟩:=choose_lt (α := Stm) hone;refine⟨some a,(List.range len).map F,cap,by simp,?_,by simp;omega,?_⟩
   ·rcases Nat.eq_zero_or_pos len with h0 | h0
    ·subst h0;rw[List.range_zero,List.map_nil,StmsAt];trivial
    obtain⟨_,g,o,rfl,hg,_⟩:=hF 0 h0;refine StmsAt.of g o _ hg fun k hk=>?_
    have hk':k < len:=by simpa using hk
    obtain⟨_,g',o',e,_,r⟩:=hF k hk';injection e with e1 e2 _;subst e1;subst e2
    simpa using r
   rw[hxx];simp only[Rows.uptoBulk];have:=sizeL_map F D (List.range len) (fun i hi=>(hF i (List.mem_range.1 hi)).1);omega
end
end Go.Proofs.YtjaeedbjknejdaaGreatDoor.Tr

namespace Go.Proofs.YtjaeedbjknejdaaGreatDoor.Ex
open Go.RowKit Go.Sort Go.Lib Go.Shelf Fx Lx Tr Go.ChangeShapes Go.WideShapes Go.Deep Go.Proofs.YtjaeedbjknejdaaGreatDoor.Nm
theorem countR_any (nm:ByteArray)(dir:Bool)(b:Option Addr)(L:List Stm)(cap n:Nat)(w:World)(hn:n<=w.heap.size)(h:StmsAt n w b L)(hs:sizeL L<=1048576):
  Calls Tryz.prog 16 #[.agg #[.string nm,.bool dir,.slice b L.length cap]] w fun e w'=>e=.returned (.int .i64 (flatL 0 L).length)/\Ext w w':=by
 have hx0:Ext w (w.alloc (.cells #[.string nm,.bool dir,.slice b L.length cap] 33)):=(Ext.refl _).alloc _;obtain⟨k0,k1,k2⟩:=tree_cells w nm dir b L.length cap _ (Ext.refl _);have hpre:=fun w1 (x:Ext w w1)=>preR_any 1048576 L b cap 0 n w1 hs (Nat.le_refl _) (by decide) (StmsAt.below (Below.mono x hn) L h) (by have h:=x.size;omega)
 generalize flatL 0 L=F at *;generalize L.length=N at *;have HPRE:=hid hpre;clear hpre h hs hn;go_enter Tryz.func16,Tryz.ntmps16;go_wp2_with (go_at_call 40;refine(HPRE.out _ hx0).mono ?_;rintro e w4 ⟨⟨g,c,C,rfl,ho,hsx⟩,x4⟩);go_returns;exact⟨rfl,hx0.trans x4⟩
def TreeUp (w:World)(v:Value):Prop:=∃ nm dir b L cap,v=.agg #[.string nm,.bool dir,.slice b (List.length L) cap]/\StmsAt w.heap.size w b L/\sizeL L<=1048576/\nm.size<=1048576
theorem cTree : Tryz.prog.cellsOf 33=3:=by kernel_rfl
theorem treeU_arg {H:Type}{enc:TypeId × Value->H}{W:World}{r:Reach}{b base:Nat}{sp:Nat->Bool}{held:Bool}{v:Value}{d:DataW H}{p:List MemPlace}
  (hv:Value.okWide Tryz.prog W r b 33 v) (h:DataW.Trod enc Tryz.prog W base sp held 33 v d p) (hb:Rows.uptoBulk d<=1048576):TreeUp W v:=by
 obtain⟨v0,v1,v2,y0,y1,y2,n,rfl,rfl,rfl,h0,h1,h2⟩:=Go.Joins.open_agg3 Tryz.underlying33 (by kernel_rfl) cTree hv h;have h0:DataW.trod enc Tryz.prog W base sp held n 9 [v0]=some y0:=h0;have h1:DataW.trod enc Tryz.prog W base sp held n 4 [v1]=some y1:=h1;have h2:DataW.trod enc Tryz.prog W base sp held n 31 [v2]=some y2:=h2;obtain⟨nm,e0,r0,_⟩:=DataW.trod_string Tryz.underlying9 h0;obtain⟨dir,e1,r1⟩:=DataW.trod_bool Tryz.underlying4 h1;simp only[Rows.uptoBulk,Rows.uptoBulkAll] at hb;obtain⟨a,L,c,e2,i2,m2,s2⟩:=open_stms 1048576 (by omega) h2;simp only[List.cons.injEq,and_true] at e0 e1 e2;subst e0;subst e1;subst e2;subst r0;refine⟨nm,dir,a,L,c,rfl,i2,by omega,?_⟩;simp only[Rows.uptoBulk] at hb;rw[<-size_len] at hb;omega
theorem fw_of {nm:ByteArray}{L:List Stm}(hv:validE nm L=0)(hs:sizeL L<=1048576):∀ p ∈ flatL 0 L,p.1.refs.length<=1048576/\p.1.attrs.length<=20:=fun p hp=>by
 have h1:=Nat.le_trans (mem_flat_size 0 L p hp) hs;have hb:=sizeS_body p.1;have hr:=sizeTwo_len p.1.refs;refine⟨by omega,?_⟩;unfold validE at hv;split at hv
 ·exact absurd hv (by decide)
 split at hv
 ·exact absurd hv (by decide)
 have h:=firstE_all _ hv p hp;unfold stmE at h;split at h
 ·exact absurd h (by decide)
 split at h
 ·exact absurd h (by decide)
 split at h
 ·exact absurd h (by decide)
 split at h
 ·exact absurd h (by decide)
 unfold attrsE at h;split at h
 ·exact absurd h (by decide)
 omega
end Go.Proofs.YtjaeedbjknejdaaGreatDoor.Ex

namespace Go.Proofs.YtjaeedbjknejdaaGreatDoor.Ex
open Go.Lib Fx Lx Tr At Go.Proofs.YtjaeedbjknejdaaGreatDoor.Nm
abbrev Cl := ByteArray × Int
def Pre (L M:List Cl):Prop:=L.length<=M.length/\∀ i,i < L.length->M[i]? = L[i]?
theorem Pre.refl (L:List Cl):Pre L L:=⟨Nat.le_refl _,fun _ _=>rfl⟩
theorem Pre.trans {L M K:List Cl}(h:Pre L M)(h2:Pre M K):Pre L K:=⟨Nat.le_trans h.1 h2.1,fun i hi=>(h2.2 i (Nat.lt_of_lt_of_le hi h.1)).trans (h.2 i hi)⟩
theorem Pre.snoc (L:List Cl)(q:Cl):Pre L (L++[q]):=⟨by simp,fun i hi=>List.getElem?_append_left hi⟩
structure Grow (c:Int)(S S':St):Prop where
 n:Pre S.N S'.N
 k:Pre S.C S'.C
 nn:∀ (i:Nat) (q:Cl),S.N.length<=i->S'.N[i]? = some q->(q.2=c\/(S.C.length:Int)<=q.2)/\q.2 < S'.C.length
 cc:∀ (i:Nat) (q:Cl),S.C.length<=i->S'.C[i]? = some q->(q.2=c\/(S.C.length:Int)<=q.2)/\q.2 < S'.C.length
theorem none_of {L:List Cl}{i:Nat}{q:Cl}(h:L.length<=i)(e:L[i]? = some q):False:=by
 have:=(List.getElem?_eq_some_iff.1 e).1;omega
theorem Grow.same {c:Int}{S S':St}(h1:S'.N=S.N)(h2:S'.C=S.C):Grow c S S':=by
 refine⟨by rw[h1];exact Pre.refl _,by rw[h2];exact Pre.refl _,fun i q h e=>?_,fun i q h e=>?_⟩
 ·rw[h1] at e;exact(none_of h e).elim
 rw[h2] at e;exact(none_of h e).elim
theorem Grow.trans {c:Int}{S S1 S2:St}(h:Grow c S S1)(h2:Grow c S1 S2):Grow c S S2:=by
 have a:=h.k.1;have b:=h2.k.1;refine⟨h.n.trans h2.n,h.k.trans h2.k,fun i q hi e=>?_,fun i q hi e=>?_⟩
 ·by_cases h1:i < S1.N.length
  ·rw[h2.n.2 i h1] at e;have:=h.nn i q hi e;exact⟨this.1,by omega⟩
  have:=h2.nn i q (by omega) e;exact⟨by omega,this.2⟩
 by_cases h1:i < S1.C.length
 ·rw[h2.k.2 i h1] at e;have:=h.cc i q hi e;exact⟨this.1,by omega⟩
 have:=h2.cc i q (by omega) e;exact⟨by omega,this.2⟩
theorem Grow.node {c:Int}{S S':St}{n:ByteArray}(h1:S'.N=S.N++[(n,c)])(h2:S'.C=S.C)(hc:c < S.C.length):Grow c S S':=by
 refine⟨by rw[h1];exact Pre.snoc _ _,by rw[h2];exact Pre.refl _,fun i q h e=>?_,fun i q h e=>?_⟩
 ·rw[h1,List.getElem?_append_right h] at e;have e1:=(List.getElem?_eq_some_iff.1 e).1;have e2:i - S.N.length=0:=by simpa using e1
  rw[e2] at e;injection e with e;subst e;exact⟨.inl rfl,by rw[h2];exact hc⟩
 rw[h2] at e;exact(none_of h e).elim
theorem Grow.clus {c:Int}{S S':St}{n:ByteArray}(h1:S'.N=S.N)(h2:S'.C=S.C++[(n,c)])(hc:c < S.C.length):Grow c S S':=by
 refine⟨by rw[h1];exact Pre.refl _,by rw[h2];exact Pre.snoc _ _,fun i q h e=>?_,fun i q h e=>?_⟩
 ·rw[h1] at e;exact(none_of h e).elim
 rw[h2,List.getElem?_append_right h] at e;have e1:=(List.getElem?_eq_some_iff.1 e).1;have e2:i - S.C.length=0:=by simpa using e1
 rw[e2] at e;injection e with e;subst e;exact⟨.inl rfl,by rw[h2];simp;omega⟩
theorem grow_ment {n:ByteArray}{p:Pl}{S S':St}{v:Nat}(hp:p.c < S.C.length)(h:ment n p S=.ok (v,S')):(S'.N=S.N\/∃ m,S'.N=S.N++[(m,p.c)])/\S'.C=S.C:=by
 unfold ment at h;split at h
 ·cases h
 split at h
 ·injection h with h;injection h with h1 h2;subst h2;exact⟨.inl rfl,rfl⟩
 injection h with h;injection h with h1 h2;subst h2;exact⟨.inr ⟨n,rfl⟩,rfl⟩
theorem Grow.of_ment {n:ByteArray}{p:Pl}{S S':St}{v:Nat}(hp:p.c < S.C.length)(h:ment n p S=.ok (v,S')):Grow p.c S S':=by
 obtain⟨h1 | ⟨m,h1⟩,h2⟩:=grow_ment hp h
 ·exact Grow.same h1 h2
 exact Grow.node h1 h2 hp
theorem Grow.of_chain {own:List Two}{p:Pl}:∀ (rs:List Two) (last:Option (Nat × ByteArray)) (S S':St),p.c < S.C.length->chainT own p rs last S=.ok S'->Grow p.c S S'
 | [],last,S,S',hp,h=>by unfold chainT at h;injection h with h;subst h;exact Grow.same rfl rfl
 | r::rs,last,S,S',hp,h=>by
  unfold chainT at h;split at h
  ·cases h
  ·rename_i v S2 hm;have g:=Grow.of_ment hp hm;have hp2:p.c < S2.C.length:=by have:=g.k.1;omega
   refine g.trans ?_;cases last with
   | none=>exact Grow.of_chain rs _ S2 S' hp2 h
   | some l=>dsimp only at h;have h9:=Grow.of_chain rs _ _ S' (by exact hp2) h;exact Grow.trans (S1:={ S2 with K:=S2.K++[⟨l.1,l.2,v,r.2,own⟩] }) (Grow.same rfl rfl) h9
mutual
theorem grow_stm : ∀ (x:Stm) (p p':Pl) (S S':St),p.c < S.C.length->blkS p S x=.ok (p',S')->Grow p.c S S'/\p'.c=p.c
 | .mk kd n rs al b,p,p',S,S',hp,he=>by
  unfold blkS at he;split at he
  ·cases he
  split at he
  ·split at he
   ·cases he
   rename_i v S2 hm;injection he with he;injection he with h1 h2;subst h1;subst h2;exact⟨(Grow.of_ment hp hm).trans (Grow.same rfl rfl),rfl⟩
  split at he
  ·split at he
   ·cases he
   rename_i S2 hm;injection he with he;injection he with h1 h2;subst h1;subst h2;exact⟨Grow.of_chain rs none S S2 hp hm,rfl⟩
  split at he
  ·split at he
   ·injection he with he;injection he with h1 h2;subst h1;subst h2;exact⟨Grow.same rfl rfl,rfl⟩
   injection he with he;injection he with h1 h2;subst h1;subst h2;exact⟨Grow.same rfl rfl,rfl⟩
  split at he
  ·split at he
   ·cases he
   split at he
   ·cases he
   rename_i S2 hm;injection he with he;injection he with h1 h2;subst h1;subst h2;have hg:=grow_stms b { p with c:=S.C.length } { S with C:=S.C++[(n,p.c)] } S2 (by simp;omega) hm;have h0:Grow p.c S { S with C:=S.C++[(n,p.c)] }:=Grow.clus rfl rfl hp;refine⟨⟨h0.n.trans hg.n,h0.k.trans hg.k,fun i q hi e=>?_,fun i q hi e=>?_⟩,rfl⟩
   ·have:=hg.nn i q hi e;simp only[List.length_append,List.length_cons,List.length_nil] at this;exact⟨.inr (by omega),this.2⟩
   by_cases h1:i < (S.C++[(n,p.c)]).length
   ·have:=h0.cc i q hi ((hg.k.2 i h1).symm.trans e);have h3:=hg.k.1;simp only[List.length_append,List.length_cons,List.length_nil] at this h3;exact⟨this.1,by omega⟩
   have:=hg.cc i q (by simpa using h1) e;simp only[List.length_append,List.length_cons,List.length_nil] at this;exact⟨.inr (by omega),this.2⟩
  ·injection he with he;injection he with h1 h2;subst h1;subst h2;exact⟨Grow.same rfl rfl,rfl⟩
theorem grow_stms : ∀ (L:List Stm) (p:Pl) (S S':St),p.c < S.C.length->blkL p S L=.ok S'->Grow p.c S S'
 | [],p,S,S',hp,he=>by
  unfold blkL at he;injection he with he;subst he;exact Grow.same rfl rfl
 | x::r,p,S,S',hp,he=>by
  unfold blkL at he;split at he
  ·cases he
  ·rename_i p2 S2 hm;obtain⟨g1,g2⟩:=grow_stm x p p2 S S2 hp hm;have h2:=grow_stms r p2 S2 S' (by rw[g2];have:=g1.k.1;omega) he;rw[g2] at h2;exact g1.trans h2
end
def Par (C:List Cl):Prop:=∀ (i:Nat) (q:Cl),C[i]? = some q->q.2 < (i:Int)
theorem chn_fuel {C:List Cl}(h:Par C):∀ (f f':Nat) (c:Int),c < f->c < f'->chnT C f c=chnT C f' c
 | 0,0,_,_,_=>rfl
 | 0,f'+1,c,h1,h2=>by rw[chnT,chnT,if_pos (by omega)]
 | f+1,0,c,h1,h2=>by rw[chnT,chnT,if_pos (by omega)]
 | f+1,f'+1,c,h1,h2=>by
  rw[chnT,chnT];by_cases hc:c < 0
  ·rw[if_pos hc,if_pos hc]
  ·rw[if_neg hc,if_neg hc]
   congr 1
   cases e:C[c.toNat]? with
   | none=>exact chn_fuel h f f' _ (by simp;omega) (by simp;omega)
   | some q=>have:=h _ _ e;exact chn_fuel h f f' _ (by simp;omega) (by simp;omega)
theorem chn_le {C:List Cl}(h:Par C):∀ (f:Nat) (c k:Int),k ∈ chnT C f c->k<=c
 | 0,c,k,hk=>by rw[chnT] at hk;cases hk
 | f+1,c,k,hk=>by
  rw[chnT] at hk;split at hk
  ·cases hk
  ·rcases List.mem_cons.1 hk with rfl | hk
   ·exact Int.le_refl _
   ·have:=chn_le h f _ k hk;cases e:C[c.toNat]? with
    | none=>rw[e] at this;simp at this;omega
    | some q=>rw[e] at this;simp at this;have:=h _ _ e;omega
theorem has_le {C:List Cl}(h:Par C){c k:Int}(hk:hasC C k c=true):k<=c:=chn_le h _ c k (by unfold hasC at hk;simpa using hk)
theorem has_step {C:List Cl}(h:Par C){c:Nat}{q:Cl}(hq:C[c]? = some q)(k:Int):hasC C k c=(decide (k=c) || hasC C k q.2):=by
 have hl:=(List.getElem?_eq_some_iff.1 hq).1;have hp:=h _ _ hq;unfold hasC;rw[show chnT C (C.length+1) (c:Int)=(c:Int)::chnT C C.length q.2 by rw[chnT,if_neg (by omega)];simp[hq]];rw[List.contains_cons,chn_fuel h C.length (C.length+1) q.2 (by omega) (by omega)]
 rfl
theorem has_not {C:List Cl}(h:Par C){k k2:Nat}{A:Int->Prop}(hA:∀ a,A a->a < k)(hkk:k < k2)(hf:∀ (i:Nat) (q:Cl),k2<=i->C[i]? = some q->A q.2\/(k2:Int)<=q.2):∀ (m:Nat) (c:Int),c < m->(A c\/(k2:Int)<=c)->c < C.length->hasC C k c=false
 | 0,c,hm,hc,hl=>by
  rcases hc with hc | hc
  ·exact Bool.eq_false_iff.2 fun e=>by have:=has_le h e;have:=hA c hc;omega
  ·omega
 | m+1,c,hm,hc,hl=>by
  rcases hc with hc | hc
  ·exact Bool.eq_false_iff.2 fun e=>by have:=has_le h e;have:=hA c hc;omega
  ·obtain⟨j,rfl⟩:∃ j:Nat,c=j:=⟨c.toNat,by omega⟩;have hj:j < C.length:=by omega
   rw[has_step h (List.getElem?_eq_getElem hj),decide_eq_false (by omega),Bool.false_or];have:=hf j _ (by omega) (List.getElem?_eq_getElem hj);have h3:=h _ _ (List.getElem?_eq_getElem hj);exact has_not h hA hkk hf m _ (by omega) this (by omega)
theorem has_yes {C:List Cl}(h:Par C){k k2:Nat}(h2:k2<=C.length)(hf:∀ (i:Nat) (q:Cl),k+1<=i->i < k2->C[i]? = some q->q.2=k\/((k:Int)+1<=q.2))(hk:k < C.length):∀ (m:Nat) (c:Int),c < m->(c=k\/(k:Int)+1<=c)->c < k2->hasC C k c=true
 | 0,c,hm,hc,hl=>by omega
 | m+1,c,hm,hc,hl=>by
  obtain⟨j,rfl⟩:∃ j:Nat,c=j:=⟨c.toNat,by omega⟩;have hj:j < C.length:=by omega
  rw[has_step h (List.getElem?_eq_getElem hj)];by_cases e:j=k
  ·subst e;rw[decide_eq_true rfl,Bool.true_or]
  ·have h3:=h _ _ (List.getElem?_eq_getElem hj);rw[has_yes h h2 hf hk m _ (by omega) (hf j _ (by omega) (by omega) (List.getElem?_eq_getElem hj)) (by omega),Bool.or_true]
structure Full (g:Gr)(N:List Cl):Prop where
 c:∀ i:Nat,g.N[i]?.map Nd.c=N[i]?.map Prod.snd
 par:Par g.C
 mem:∀ c:Nat,c < g.C.length->memT g c ≠ []
theorem mem_iff (g:Gr)(c:Int)(v:Nat):v ∈ memT g c ↔ v < g.N.length/\hasC g.C c ((g.N[v]?.map Nd.c).getD (-1))=true:=by
 unfold memT;rw[List.mem_filter,List.mem_range]
theorem Full.at {g:Gr}{N:List Cl}(h:Full g N){i:Nat}{q:Cl}(e:N[i]? = some q):∃ x,g.N[i]? = some x/\x.c=q.2:=by
 have:=h.c i;rw[e] at this;cases e2:g.N[i]? with
 | none=>rw[e2] at this;cases this
 | some x=>rw[e2] at this;injection this with this;exact⟨x,rfl,this⟩
theorem Full.at' {g:Gr}{N:List Cl}(h:Full g N){i:Nat}{x:Nd}(e:g.N[i]? = some x):∃ q,N[i]? = some q/\x.c=q.2:=by
 have:=h.c i;rw[e] at this;cases e2:N[i]? with
 | none=>rw[e2] at this;cases this
 | some q=>rw[e2] at this;injection this with this;exact⟨q,rfl,this⟩
theorem Full.node {g:Gr}{N:List Cl}(h:Full g N){p:Int}{n k:Nat}{q:Cl}(e:N[n]? = some q)(hq:q.2=p)(hk:p < k):(blkT g p n k).2=(blkT g p (n+1) k).2:=by
 obtain⟨x,hx,hc⟩:=h.at e
 have hn:¬ readyT g p n k=true:=by
  unfold readyT;cases ec:g.C[k]? with
  | none=>simp
  | some y =>
   have hl:=(List.getElem?_eq_some_iff.1 ec).1;have h1:=h.mem k hl
   have h2:¬ n ∈ memT g k:=fun hm=>by
    have:=((mem_iff g k n).1 hm).2;rw[hx] at this;have:=has_le h.par this;simp only[Option.map_some,Option.getD_some] at this;omega
   have h3:(memT g (k:Int)).isEmpty=false:=by
    cases hm:memT g (k:Int) with
    | nil=>exact absurd hm h1
    | cons a b=>rfl
   have h4:(memT g (k:Int)).contains n=false:=by simpa using h2
   rw[h3,h4];simp
 rw[blk_node hn hx (by rw[hc,hq])]
theorem cov_ment {g:Gr}{N:List Cl}(hF:Full g N)(n:ByteArray)(p:Pl)(S S':St)(v:Nat)(hm:ment n p S=.ok (v,S'))(hp:p.c < S.C.length)(hN:Pre S'.N N)(hC:Pre S'.C g.C):(blkT g p.c S.N.length S.C.length).2=(blkT g p.c S'.N.length S'.C.length).2:=by
 obtain⟨h1 | ⟨m,h1⟩,h2⟩:=grow_ment hp hm
 ·rw[h1,h2]
 have e:N[S.N.length]? = some (m,p.c):=by rw[hN.2 _ (by rw[h1];simp),h1];simp
 rw[hF.node e rfl hp,h2,h1];simp
theorem cov_chain {g:Gr}{N:List Cl}(hF:Full g N){own:List Two}:∀ (rs:List Two) (last:Option (Nat × ByteArray)) (p:Pl) (S S':St),chainT own p rs last S=.ok S'->p.c < S.C.length->Pre S'.N N->Pre S'.C g.C->(blkT g p.c S.N.length S.C.length).2=(blkT g p.c S'.N.length S'.C.length).2
 | [],last,p,S,S',h,_,_,_=>by unfold chainT at h;injection h with h;subst h;rfl
 | r::rs,last,p,S,S',h,hp,hN,hC=>by
  unfold chainT at h;split at h
  ·cases h
  ·rename_i v S2 hm;have g1:=Grow.of_ment hp hm;have hp2:p.c < S2.C.length:=by have:=g1.k.1;omega
   cases last with
   | none =>
    have g2:=Grow.of_chain rs _ S2 S' hp2 h;rw[cov_ment hF _ p S S2 v hm hp (g2.n.trans hN) (g2.k.trans hC)];exact cov_chain hF rs _ p S2 S' h hp2 hN hC
   | some l =>
    dsimp only at h;have g9:=Grow.of_chain rs _ _ S' (by exact hp2) h;have g2:Grow p.c S2 S':=Grow.trans (S1:={ S2 with K:=S2.K++[⟨l.1,l.2,v,r.2,own⟩] }) (Grow.same rfl rfl) g9;rw[cov_ment hF _ p S S2 v hm hp (Pre.trans g2.n hN) (Pre.trans g2.k hC)];have h9:=cov_chain hF rs _ p _ S' h (by exact hp2) hN hC;exact h9
mutual
theorem cov_stm {g:Gr}{N:List Cl}(hF:Full g N):∀ (x:Stm) (p p':Pl) (S S':St) (A:Int->Prop),blkS p S x=.ok (p',S')->p.c < S.C.length->A p.c->(∀ a,A a->a < S.C.length)->Pre S'.N N->Pre S'.C g.C ->
  (∀ (i:Nat) (q:Cl),S'.N.length<=i->N[i]? = some q->A q.2\/(S'.C.length:Int)<=q.2)->(∀ (i:Nat) (q:Cl),S'.C.length<=i->g.C[i]? = some q->A q.2\/(S'.C.length:Int)<=q.2)->(∀ (i:Nat) (q:Cl),S.N[i]? = some q->q.2 < S.C.length)->(∀ (i:Nat) (q:Cl),N[i]? = some q->q.2 < g.C.length) ->
  (blkT g p.c S.N.length S.C.length).2=(blkT g p.c S'.N.length S'.C.length).2
 | .mk kd n rs al b,p,p',S,S',A,he,hp,hA,hAl,hN,hC,hf1,hf2,hb,hbl=>by
  unfold blkS at he;split at he
  ·cases he
  split at he
  ·split at he
   ·cases he
   rename_i v S2 hm;injection he with he;injection he with h1 h2;subst h1;subst h2;exact cov_ment hF n p S S2 v hm hp hN hC
  split at he
  ·split at he
   ·cases he
   rename_i S2 hm;injection he with he;injection he with h1 h2;subst h1;subst h2;exact cov_chain hF rs none p S S2 hm hp hN hC
  split at he
  ·split at he
   ·injection he with he;injection he with h1 h2;subst h1;subst h2
    rfl
   injection he with he;injection he with h1 h2;subst h1;subst h2
   rfl
  split at he
  ·split at he
   ·cases he
   split at he
   ·cases he
   rename_i S2 hm;injection he with he;injection he with h1 h2;subst h1;subst h2;obtain⟨S1,hS1⟩:∃ S1,S1={ S with C:=S.C++[(n,p.c)] }:=⟨_,rfl⟩;have hl1:S1.C.length=S.C.length+1:=by rw[hS1];simp
   have hn1:S1.N=S.N:=by rw[hS1]
   rw[<-hS1] at hm;have hg:=grow_stms b { p with c:=S.C.length } S1 S2 (by show(S.C.length:Int) < _;omega) hm;have hk1:=hg.k.1;have hkN:=hg.n.1;have hkC:=hC.1
   have ih:=cov_stms hF b { p with c:=S.C.length } S1 S2 (fun a=>A a\/a=S.C.length) hm (by show(S.C.length:Int) < _;omega) (.inr rfl) (fun a ha=>by rcases ha with ha | ha;have:=hAl a ha;omega;omega) hN hC
    (fun i q hi e=>by rcases hf1 i q hi e with h | h;exact .inl (.inl h);exact .inr h) (fun i q hi e=>by rcases hf2 i q hi e with h | h;exact .inl (.inl h);exact .inr h)
    (fun i q e=>by rw[hn1] at e;have:=hb i q e;omega) hbl
   rw[hn1,hl1] at ih;rw[hn1] at hkN
   have hck:g.C[S.C.length]? = some (n,p.c):=by
    rw[hC.2 _ (by omega),hg.k.2 _ (by omega),hS1];simp
   have hkl:S.C.length < g.C.length:=(List.getElem?_eq_some_iff.1 hck).1
   have hend:blkT g S.C.length S2.N.length S2.C.length=([],S2.N.length,S2.C.length):=by
    refine blk_end ?_ ?_
    ·unfold readyT;cases e:g.C[S2.C.length]? with
     | none=>simp
     | some y =>
      have h5:¬ y.2=S.C.length:=fun h6=>by
       rcases hf2 _ _ (Nat.le_refl _) e with h | h
       ·have:=hAl _ h;omega
       omega
      dsimp only;rw[decide_eq_false h5];simp
    intro x hx h6;obtain⟨q,hq,hc⟩:=hF.at' hx;rcases hf1 _ _ (Nat.le_refl _) hq with h | h
    ·have:=hAl _ h;omega
    omega
   have hr:readyT g p.c S.N.length S.C.length=true:=by
    unfold readyT;rw[hck];have hne:=hF.mem S.C.length hkl
    obtain⟨v,hv⟩:∃ v,v ∈ memT g (S.C.length:Int):=by
     cases hm:memT g (S.C.length:Int) with
     | nil=>exact absurd hm hne
     | cons a b=>exact⟨a,by simp⟩
    obtain⟨hv1,hv2⟩:=(mem_iff g _ v).1 hv;obtain⟨q,hq,hc⟩:=hF.at' (List.getElem?_eq_getElem hv1);rw[List.getElem?_eq_getElem hv1] at hv2;simp only[Option.map_some,Option.getD_some] at hv2;rw[hc] at hv2
    have hvn:S.N.length<=v:=Nat.le_of_not_lt fun h=>by
     have h7:=hb v q (by rw[<-hq,hN.2 v (by omega),hg.n.2 v (by rw[hn1];omega),hn1]);have:=has_le hF.par hv2;omega
    have hvn2:v < S2.N.length:=Nat.lt_of_not_le fun h=>by
     have h8:=has_not hF.par (k:=S.C.length) (k2:=S2.C.length) (fun a ha=>hAl a ha) (by omega) hf2 (q.2.toNat+1) q.2 (by omega) (hf1 v q h hq) (hbl v q hq);rw[h8] at hv2;cases hv2
    have hn2:S.N.length < S2.N.length:=by omega
    obtain⟨q2,hq2⟩:∃ q2,S2.N[S.N.length]? = some q2:=⟨_,List.getElem?_eq_getElem hn2⟩;have hqN:N[S.N.length]? = some q2:=by rw[hN.2 _ hn2,hq2]
    obtain⟨x,hx,hxc⟩:=hF.at hqN;have hnn:=hg.nn _ q2 (by rw[hn1];exact Nat.le_refl _) hq2
    have hmem:S.N.length ∈ memT g (S.C.length:Int):=by
     refine(mem_iff g _ _).2 ⟨(List.getElem?_eq_some_iff.1 hx).1,?_⟩;rw[hx];simp only[Option.map_some,Option.getD_some];rw[hxc];refine has_yes hF.par (k2:=S2.C.length) hkC (fun i q hi h2 e=>?_) hkl (q2.2.toNat+1) q2.2 (by omega) ?_ hnn.2
     ·have h9:=hg.cc i q (by omega) (by rw[<-hC.2 i h2];exact e);rw[hl1] at h9;rcases h9.1 with h | h
      ·exact .inl h
      exact .inr (by omega)
     rw[hl1] at hnn;rcases hnn.1 with h | h
     ·exact .inl h
     exact .inr (by omega)
    have:(memT g (S.C.length:Int)).contains S.N.length=true:=by simpa using hmem
    rw[this];simp
   rw[blk_clu hr];have e1:(blkT g S.C.length S.N.length (S.C.length+1)).2=(S2.N.length,S2.C.length):=by rw[ih,hend]
   rw[e1]
  ·injection he with he;injection he with h1 h2;subst h1;subst h2
   rfl
theorem cov_stms {g:Gr}{N:List Cl}(hF:Full g N):∀ (L:List Stm) (p:Pl) (S S':St) (A:Int->Prop),blkL p S L=.ok S'->p.c < S.C.length->A p.c->(∀ a,A a->a < S.C.length)->Pre S'.N N->Pre S'.C g.C ->
  (∀ (i:Nat) (q:Cl),S'.N.length<=i->N[i]? = some q->A q.2\/(S'.C.length:Int)<=q.2)->(∀ (i:Nat) (q:Cl),S'.C.length<=i->g.C[i]? = some q->A q.2\/(S'.C.length:Int)<=q.2)->(∀ (i:Nat) (q:Cl),S.N[i]? = some q->q.2 < S.C.length)->(∀ (i:Nat) (q:Cl),N[i]? = some q->q.2 < g.C.length) ->
  (blkT g p.c S.N.length S.C.length).2=(blkT g p.c S'.N.length S'.C.length).2
 | [],p,S,S',A,he,hp,hA,hAl,hN,hC,hf1,hf2,hb,hbl=>by
  unfold blkL at he;injection he with he;subst he
  rfl
 | x::r,p,S,S',A,he,hp,hA,hAl,hN,hC,hf1,hf2,hb,hbl=>by
  unfold blkL at he;split at he
  ·cases he
  ·rename_i p2 S2 hm;obtain⟨g1,g2⟩:=grow_stm x p p2 S S2 hp hm;have k1:=g1.k.1;have h2:=grow_stms r p2 S2 S' (by rw[g2];omega) he;have k2:=h2.k.1;rw[g2] at h2
   have a:=cov_stm hF x p p2 S S2 A hm hp hA hAl (h2.n.trans hN) (h2.k.trans hC)
    (fun i q hi e=>by
     by_cases hi2:i < S'.N.length
     ·rcases(h2.nn i q hi (by rw[<-hN.2 i hi2];exact e)).1 with h | h
      ·exact .inl (by rw[h];exact hA)
      exact .inr h
     ·rcases hf1 i q (by omega) e with h | h
      ·exact .inl h
      exact .inr (by omega))
    (fun i q hi e=>by
     by_cases hi2:i < S'.C.length
     ·rcases(h2.cc i q hi (by rw[<-hC.2 i hi2];exact e)).1 with h | h
      ·exact .inl (by rw[h];exact hA)
      exact .inr h
     ·rcases hf2 i q (by omega) e with h | h
      ·exact .inl h
      exact .inr (by omega)) hb hbl
   have b:=cov_stms hF r p2 S2 S' A he (by rw[g2];omega) (by rw[g2];exact hA) (fun a ha=>by have:=hAl a ha;omega) hN hC hf1 hf2
    (fun i q e=>by
     by_cases hi:i < S.N.length
     ·rw[g1.n.2 i hi] at e;have:=hb i q e;omega
     ·exact(g1.nn i q (by omega) e).2) hbl
   rw[g2] at b;rw[a,b]
end
theorem finNs_c : ∀ (N:List Cl) (A:List (List Two)),A.length=N.length->∀ i:Nat,(finNs N A)[i]?.map Nd.c=N[i]?.map Prod.snd
 | [],[],_,i=>by simp[finNs]
 | [],_::_,h,i=>by simp at h
 | _::_,[],h,i=>by simp at h
 | q::r,l::s,h,i=>by
  unfold finNs;cases i with
  | zero=>rfl
  | succ i=>simpa using finNs_c r s (by simpa using h) i
theorem build_cover {nm:ByteArray}{dir:Bool}{body:List Stm}{g:Gr}(hw:okWL body)(h:buildT nm dir body=.ok g)(hm:∀ c:Nat,c < g.C.length->memT g c ≠ []):(blkT g (-1) 0 0).2=(g.N.length,g.C.length):=by
 have hgr:grE g=0:=(build_names hw h).2.2.2.2.1;unfold buildT at h;split at h
 ·cases h
 split at h
 ·cases h
 rename_i S hS;split at h
 ·cases h
 rename_i E hE;split at h
 ·cases h
 injection h with h;have hsm:=Sml.stms body 0 _ _ _ hw Sml.nil ⟨by decide,by decide,SmA.nil _,SmA.nil _⟩ hS;have hN:g.N=finNs S.N S.A:=by rw[<-h]
 have hC:g.C=S.C:=by rw[<-h]
 have hok:=gr_ok hgr
 have hF:Full g S.N:=⟨fun i=>by rw[hN];exact finNs_c S.N S.A hsm.a i,fun i q e=>by
  obtain⟨hi,rfl⟩:=List.getElem?_eq_some_iff.1 e
  exact(cl_ok (hok.cs i hi)).2.2.2.2.1,hm⟩
 have hg:=grow_stms body ⟨-1,[],[]⟩ ⟨[],[],[],[]⟩ S (by decide) hS
 have:=cov_stms hF body ⟨-1,[],[]⟩ ⟨[],[],[],[]⟩ S (fun a=>a = -1) hS (by decide) rfl (fun a ha=>by rw[ha];decide) (Pre.refl _) (by rw[hC];exact Pre.refl _)
  (fun i q hi e=>(none_of hi e).elim) (fun i q hi e=>by rw[hC] at e;exact(none_of hi e).elim) (fun i q e=>by simp at e) (fun i q e=>by rw[hC];exact(hg.nn i q (Nat.zero_le _) e).2)
 have hl:g.N.length=S.N.length:=by
  have:=hF.c;rw[hN];have e:(finNs S.N S.A).map Nd.name=S.N.map Prod.fst:=finNs_names _ _ hsm.a;have:=congrArg List.length e
  simpa using this
 show(blkT g (-1) 0 0).2=_;rw[hl,hC];refine this.trans ?_;rw[blk_end (g:=g) (p := -1) (n:=S.N.length) (k:=S.C.length) ?_ ?_]
 ·unfold readyT;rw[hC,List.getElem?_eq_none (Nat.le_refl _)];simp
 intro x hx;have:=(List.getElem?_eq_some_iff.1 hx).1;omega
end Go.Proofs.YtjaeedbjknejdaaGreatDoor.Ex

namespace Go.Proofs.YtjaeedbjknejdaaGreatDoor.Ex
open Go.Lib Fx Lx Tr At Go.Proofs.YtjaeedbjknejdaaGreatDoor.Nm
theorem scan_full (p:Nat->Bool):∀ (f n:Nat),scan p f n=n+f->∀ i,n<=i->i < n+f->p i=true
 | 0,n,_,i,h1,h2=>absurd h2 (by omega)
 | f+1,n,h,i,h1,h2=>by
  unfold scan at h;split at h
  ·rename_i hp;by_cases e:i=n
   ·rw[e];exact hp
   exact scan_full p f (n+1) (by omega) i (by omega) (by omega)
  ·omega
theorem name_bytes {l:List UInt8}(h:nameB l=true):l ≠ []/\∀ b ∈ l,isL b=true\/isD b=true:=by
 unfold nameB at h;simp only[Bool.and_eq_true,decide_eq_true_eq] at h;refine⟨fun e=>by rw[e] at h;simp at h,fun b hb=>?_⟩;obtain⟨i,hi,rfl⟩:=List.getElem_of_mem hb;have:=scan_full (Lx.okW l) l.length 0 (by have:=h.1.2;unfold wordN at this;omega) i (Nat.zero_le _) (by omega);unfold Lx.okW at this;have hbt:bt l i=l[i]:=by unfold bt;rw[List.getElem?_eq_getElem hi];rfl
 rw[hbt] at this;simp only[Bool.or_eq_true,Bool.and_eq_true] at this;rcases this with h1 | h1
 ·exact .inl h1
 exact .inr h1.2
theorem name_no {l:List UInt8}(h:nameB l=true):(44:UInt8) ∉ l/\(32:UInt8) ∉ l:=by
 have hb:=(name_bytes h).2;refine⟨fun hm=>?_,fun hm=>?_⟩
 ·have h1:=hb _ hm;revert h1;decide
 have h1:=hb _ hm;revert h1;decide
theorem pre_ne {a b:UInt8}(h:b ≠ a)(r l:List UInt8):(a::r).isPrefixOf (b::l)=false:=by
 have:(a == b)=false:=by rw[beq_eq_false_iff_ne];exact fun e=>h e.symm
 rw[List.isPrefixOf,this,Bool.false_and]
theorem index_at (sep:List UInt8)(a:UInt8)(h:sep.head? = some a):∀ (x t:List UInt8),a ∉ x->index (x++(sep++t)) sep=x.length:=by
 obtain⟨r,rfl⟩:∃ r,sep=a::r:=by
  cases sep with
  | nil=>cases h
  | cons b r=>injection h with h;exact⟨r,by rw[h]⟩
 intro x
 induction x with
 | nil =>
  intro t _;rw[List.nil_append,List.cons_append];unfold index
  have:(a::r).isPrefixOf (a::(r++t))=true:=by
   rw[<-List.cons_append,List.isPrefixOf_iff_prefix];exact List.prefix_append _ _
  rw[if_pos this];rfl
 | cons b x ih =>
  intro t hx;rw[List.cons_append];unfold index;rw[pre_ne (fun e=>hx (by rw[e];simp)),if_neg (by simp),ih t (fun hm=>hx (List.mem_cons_of_mem _ hm))];have:((x.length:Int) == -1)=false:=by rw[beq_eq_false_iff_ne];omega
  rw[this,if_neg (by decide),List.length_cons];omega
theorem index_no (r:List UInt8)(a:UInt8):∀ (x:List UInt8),a ∉ x->index x (a::r) = -1
 | [],_=>by unfold index;rfl
 | b::x,hx=>by
  unfold index;rw[pre_ne (fun e=>hx (by rw[e];simp)),if_neg (by simp),index_no r a x (fun hm=>hx (List.mem_cons_of_mem _ hm))]
  rfl
theorem join_more (x y:List UInt8)(r:List (List UInt8))(sep:List UInt8):join (x::y::r) sep=x++(sep++join (y::r) sep):=by
 rw[join_cons,join_cons];unfold joinTail;rw[List.map_cons,List.flatten_cons,List.append_assoc]
theorem split_join2 : ∀ (r:List (List UInt8)) (x:List UInt8),(∀ y ∈ x::r,(44:UInt8) ∉ y)->splitK [44,32] 0 (count (join (x::r) [44,32]) [44,32]) (join (x::r) [44,32])=x::r
 | [],x,h=>by
  rw[join_one,count_miss (index_no [32] 44 x (h x (by simp)))];rfl
 | y::r,x,h=>by
  have hi:=index_at [44,32] 44 rfl x (join (y::r) [44,32]) (h x (by simp));have ih:=split_join2 r y (fun z hz=>h z (List.mem_cons_of_mem _ hz));rw[join_more]
  have hd:(x++([44,32]++join (y::r) [44,32])).drop (x.length+([44,32]:List UInt8).length)=join (y::r) [44,32]:=by
   rw[<-List.drop_drop,List.drop_left,List.drop_left]
  rw[count_hit (by simp) hi,hd,Nat.add_comm 1];unfold splitK;rw[hi,if_neg (by rw[beq_iff_eq];omega),Int.toNat_natCast,Nat.add_zero,List.take_left,hd,ih]
theorem map_inj {X:List ByteArray}{Y:List (List UInt8)}(h:X.map (fun s=>s.data.toList)=Y):X=Y.map fun l=>(⟨l.toArray⟩:ByteArray):=by
 subst h;rw[List.map_map];have:((fun l=>(⟨l.toArray⟩:ByteArray)) ∘ fun s:ByteArray=>s.data.toList)=id:=by funext s;rfl
 rw[this,List.map_id]
def prtB (p:Prt):ByteArray:=⟨(portTx p).toArray⟩
theorem parts_ports (L:List Prt)(hne:L ≠ [])(h:∀ p ∈ L,(44:UInt8) ∉ portTx p):parts (portsTx L)=L.map prtB:=by
 have hd:=splitB_data comma 0 (Lib.countB (portsTx L) comma) (portsTx L);cases L with
 | nil=>exact absurd rfl hne
 | cons p r =>
  have hs:=split_join2 (r.map portTx) (portTx p) (fun y hy=>by
   rw[<-List.map_cons] at hy;obtain⟨q,hq,rfl⟩:=List.mem_map.1 hy
   exact h q hq)
  have e:(portsTx (p::r)).data.toList=join (portTx p::r.map portTx) [44,32]:=rfl;have e2:comma.data.toList=[44,32]:=rfl;have e3:Lib.countB (portsTx (p::r)) comma=count (join (portTx p::r.map portTx) [44,32]) [44,32]:=rfl;rw[e,e2,e3,hs] at hd;have:=map_inj hd;rw[<-List.map_cons,List.map_map] at this;exact this
theorem side_ok {n:Int}(h0:0<=n)(h3:n<=3):sideN (sideT n)=n/\(44:UInt8) ∉ (sideT n).data.toList:=by
 have:n=0\/n=1\/n=2\/n=3:=by omega
 rcases this with rfl | rfl | rfl | rfl <;> decide
theorem port_cut {p:Prt}(h:nameB p.1.data.toList=true):gapN (prtB p)=p.1.data.toList.length/\nmOf (prtB p)=p.1/\wdOf (prtB p)=sideT p.2:=by
 have hi:gapN (prtB p)=p.1.data.toList.length:=by
  show index (p.1.data.toList++[32]++(sideT p.2).data.toList) [32]=_;rw[List.append_assoc];exact index_at [32] 32 rfl _ _ (name_no h).2
 refine⟨hi,?_,?_⟩
 ·unfold nmOf;rw[hi,Int.toNat_natCast];apply ByteArray.ext;apply Array.toList_inj.1;rw[extract_from_zero];show(p.1.data.toList++[32]++(sideT p.2).data.toList).take _=_;rw[List.append_assoc,List.take_left]
 unfold wdOf;rw[hi,Int.toNat_natCast];apply ByteArray.ext;apply Array.toList_inj.1;rw[extract_to_end];show(p.1.data.toList++[32]++(sideT p.2).data.toList).drop _=_;have:p.1.data.toList.length+1=(p.1.data.toList++[32]).length:=by simp
 rw[this,List.drop_left]
theorem portsGo_ok : ∀ (L D:List Prt),Nm.prtGo L D=0->D.length+L.length<=8->portsGo (L.map prtB) D=(D++L,0)
 | [],D,_,_=>by rw[List.map_nil,List.append_nil];rfl
 | q::r,D,h,hl=>by
  unfold Nm.prtGo at h;split at h
  ·exact absurd h (by decide)
  ·split at h
   ·exact absurd h (by decide)
   split at h
   ·exact absurd h (by decide)
   rename_i h1 h2 h3;have h1':nameB q.1.data.toList=true:=by simpa using h1
   obtain⟨c1,c2,c3⟩:=port_cut h1';have hs:=(side_ok (n:=q.2) (by omega) (by omega)).1;rw[List.length_cons] at hl;rw[List.map_cons];unfold portsGo;rw[c1,c2,c3,hs,if_neg (by omega),if_neg (by omega),if_neg (by rw[h1'];decide),if_neg (by unfold hasN;exact h2),if_neg (by omega)];rw[portsGo_ok r (D++[q]) h (by simp;omega),List.append_assoc];rfl
theorem ports_back {L:List Prt}(h:prtE L=0):portsV (if L=[] then ⟨#[]⟩ else portsTx L)=(L,0):=by
 by_cases hn:L=[]
 ·rw[if_pos hn,hn];rfl
 rw[if_neg hn];have hok:=prt_ok h
 have h2:Nm.prtGo L []=0:=by
  unfold prtE at h;rw[if_neg (by omega)] at h;exact h
 have hsz:¬ (portsTx L).size=0:=by
  cases L with
  | nil=>exact absurd rfl hn
  | cons p r =>
   have e:(portsTx (p::r)).size=(join (portTx p::r.map portTx) [44,32]).length:=rfl;rw[e,join_cons];unfold portTx;simp
 unfold portsV
 rw[if_neg hsz,parts_ports L hn (fun p hp=>by
  obtain⟨k,hk,rfl⟩:=List.getElem_of_mem hp;obtain⟨a,-,b,c⟩:=hok.2 k hk;unfold portTx;intro hm;rcases List.mem_append.1 hm with hm | hm
  ·rcases List.mem_append.1 hm with hm | hm
   ·exact(name_no a).1 hm
   revert hm;decide
  exact(side_ok b c).2 hm)]
 exact portsGo_ok L [] h2 (by simpa using hok.1)
def opA (c:Prop)[Decidable c](k v:ByteArray):List Two:=if c then [] else [(k,v)]
theorem get_op (c:Prop)[Decidable c](k v x:ByteArray):getT (opA c k v) x=if k=x then (if c then (⟨#[]⟩,false) else (v,true)) else (⟨#[]⟩,false):=by
 unfold opA;by_cases h:c
 ·rw[if_pos h];simp[getT,h]
 rw[if_neg h];have:=getT_snoc [] (k,v) x;rw[List.nil_append] at this;rw[this];simp only[h,if_false];split
 ·rfl
 rfl
theorem get_cat (L:List Two)(c:Prop)[Decidable c](k v x:ByteArray)(h:k ≠ x):getT (L++opA c k v) x=getT L x:=by
 rw[getT_append,get_op,if_neg h];rfl
theorem get_cat2 (L:List Two)(c:Prop)[Decidable c](k v:ByteArray)(h:getT L k=(⟨#[]⟩,false)):getT (L++opA c k v) k=if c then (⟨#[]⟩,false) else (v,true):=by
 rw[getT_append,get_op,if_pos rfl];by_cases hc:c
 ·simp only[hc,if_true];rw[h];rfl
 simp only[hc,if_false];rfl
theorem op_sub (c:Prop)[Decidable c](k v:ByteArray):(opA c k v).Sublist [(k,v)]:=by
 unfold opA;split
 ·exact List.nil_sublist _
 exact List.Sublist.refl _
theorem nodeA_op (x:Nd):nodeA x=opA (x.h=10000) kHeight (fmtB x.h)++opA (x.label=x.name) kLabel x.label++opA (x.ports=[]) kPorts (portsTx x.ports)++opA (x.w=20000) kWidth (fmtB x.w):=rfl
theorem edgeA_op (x:Ed):edgeA x=opA (x.label=⟨#[]⟩) kLabel x.label++opA (x.len=1) kLen (fmtB (1000 * x.len))++opA (x.wt=1) kWeight (fmtB (1000 * x.wt)):=rfl
theorem asc_of_sub {L M:List Two}(h:L.Sublist M)(hM:Asc M):Asc L:=List.Pairwise.sublist h hM
theorem asc_node (x:Nd):Asc (nodeA x):=by
 rw[nodeA_op];refine asc_of_sub (((op_sub _ _ _).append (op_sub _ _ _)).append (op_sub _ _ _) |>.append (op_sub _ _ _)) ?_;show List.Pairwise _ [(kHeight,fmtB x.h),(kLabel,x.label),(kPorts,portsTx x.ports),(kWidth,fmtB x.w)];have a:ltK kHeight kLabel=true:=by decide
 have b:ltK kHeight kPorts=true:=by decide
 have c:ltK kHeight kWidth=true:=by decide
 have d:ltK kLabel kPorts=true:=by decide
 have e:ltK kLabel kWidth=true:=by decide
 have f:ltK kPorts kWidth=true:=by decide
 simp only[List.pairwise_cons,List.mem_cons,List.not_mem_nil,or_false,forall_eq_or_imp,forall_eq,a,b,c,d,e,f,and_self,false_implies,implies_true,List.Pairwise.nil]
theorem asc_edge (x:Ed):Asc (edgeA x):=by
 rw[edgeA_op];refine asc_of_sub (((op_sub _ _ _).append (op_sub _ _ _)).append (op_sub _ _ _)) ?_;show List.Pairwise _ [(kLabel,x.label),(kLen,fmtB (1000 * x.len)),(kWeight,fmtB (1000 * x.wt))];have a:ltK kLabel kLen=true:=by decide
 have b:ltK kLabel kWeight=true:=by decide
 have c:ltK kLen kWeight=true:=by decide
 simp only[List.pairwise_cons,List.mem_cons,List.not_mem_nil,or_false,forall_eq_or_imp,forall_eq,a,b,c,and_self,false_implies,implies_true,List.Pairwise.nil]
theorem mrg_asc {L:List Two}(h:Asc L):mrgT L=L:=(mrgT_is L L h (asc_get L h)).symm
theorem node_get (x:Nd):getT (nodeA x) kHeight=(if x.h=10000 then (⟨#[]⟩,false) else (fmtB x.h,true))/\getT (nodeA x) kLabel=(if x.label=x.name then (⟨#[]⟩,false) else (x.label,true))/\getT (nodeA x) kPorts=(if x.ports=[] then (⟨#[]⟩,false) else (portsTx x.ports,true))/\getT (nodeA x) kWidth=(if x.w=20000 then (⟨#[]⟩,false) else (fmtB x.w,true)):=by
 rw[nodeA_op];refine⟨?_,?_,?_,?_⟩
 ·rw[get_cat _ _ _ _ _ (by decide),get_cat _ _ _ _ _ (by decide),get_cat _ _ _ _ _ (by decide),get_op,if_pos rfl]
 ·rw[get_cat _ _ _ _ _ (by decide),get_cat _ _ _ _ _ (by decide),get_cat2 _ _ _ _ (by rw[get_op,if_neg (by decide)])]
 ·rw[get_cat _ _ _ _ _ (by decide),get_cat2 _ _ _ _ (by rw[get_cat _ _ _ _ _ (by decide),get_op,if_neg (by decide)])]
 rw[get_cat2 _ _ _ _ (by rw[get_cat _ _ _ _ _ (by decide),get_cat _ _ _ _ _ (by decide),get_op,if_neg (by decide)])]
theorem edge_get (x:Ed):getT (edgeA x) kLabel=(if x.label=⟨#[]⟩ then (⟨#[]⟩,false) else (x.label,true))/\getT (edgeA x) kLen=(if x.len=1 then (⟨#[]⟩,false) else (fmtB (1000 * x.len),true))/\getT (edgeA x) kWeight=(if x.wt=1 then (⟨#[]⟩,false) else (fmtB (1000 * x.wt),true)):=by
 rw[edgeA_op];refine⟨?_,?_,?_⟩
 ·rw[get_cat _ _ _ _ _ (by decide),get_cat _ _ _ _ _ (by decide),get_op,if_pos rfl]
 ·rw[get_cat _ _ _ _ _ (by decide),get_cat2 _ _ _ _ (by rw[get_op,if_neg (by decide)])]
 rw[get_cat2 _ _ _ _ (by rw[get_cat _ _ _ _ _ (by decide),get_op,if_neg (by decide)])]
theorem parse_fmtB {n:Int}(h0:0<=n)(h1:n<=1048576):parse (fmtB n).data.toList=(n,0):=by
 show parse (fmt n)=_;rw[parse_fmt,if_pos (by omega)]
theorem acc3 {lo hi d n:Int}(h0:0<=n)(h1:n<=1048576)(a:lo<=n)(b:n<=hi):accB (3,lo,hi,d) (fmtB n)=true/\numT (3,lo,hi,d) (fmtB n,true)=n:=by
 have hp:=parse_fmtB h0 h1
 have ha:accB (3,lo,hi,d) (fmtB n)=true:=by
  unfold accB;dsimp only;rw[if_neg (by decide),if_neg (by decide),if_neg (by decide),hp];unfold accN;simp[a,b]
 refine⟨ha,?_⟩;unfold numT;dsimp only;rw[if_neg (by decide),if_neg (by decide),ha,hp];rfl
theorem acc4 {lo hi d n:Int}(h0:0<=n)(h1:n<=1048)(a:lo<=1000 * n)(b:1000 * n<=hi):accB (4,lo,hi,d) (fmtB (1000 * n))=true/\numT (4,lo,hi,d) (fmtB (1000 * n),true)=n:=by
 have hp:=parse_fmtB (n:=1000 * n) (by omega) (by omega)
 have ha:accB (4,lo,hi,d) (fmtB (1000 * n))=true:=by
  unfold accB;dsimp only;rw[if_neg (by decide),if_neg (by decide),if_neg (by decide),hp];unfold accN;simp[a,b,Int.mul_tmod_right]
 refine⟨ha,?_⟩;unfold numT;dsimp only;rw[if_neg (by decide),if_pos rfl,ha,hp];simp[Int.mul_tdiv_cancel_left]
theorem num_none {r:Rul}:numT r (⟨#[]⟩,false)=if r.1 ≠ 3/\r.1 ≠ 4 then 0 else if r.1=4 then r.2.2.2.tdiv 1000 else r.2.2.2:=by
 unfold numT;simp
theorem node_back {nc:Nat}{D:List Nd}{x:Nd}(h:ndE nc D x=0):finN (x.name,x.c) (nodeA x)=x:=by
 obtain⟨-,-,-,h1,h2,h3,h4,-,-,h5⟩:=nd_ok h;obtain⟨g1,g2,g3,g4⟩:=node_get x;unfold finN labelT numK;rw[g1,g2,g3,g4];have r1:ruleT 1 kWidth.data.toList=(3,1,1048576,20000):=by decide
 have r2:ruleT 1 kHeight.data.toList=(3,1,1048576,10000):=by decide
 rw[r1,r2]
 have e1:(if(if x.label=x.name then ((⟨#[]⟩:ByteArray),false) else (x.label,true)).2=true then (if x.label=x.name then ((⟨#[]⟩:ByteArray),false) else (x.label,true)).1 else (x.name,x.c).1)=x.label:=by
  by_cases e:x.label=x.name
  ·simp[e]
  simp[e]
 have e2:numT (3,1,1048576,20000) (if x.w=20000 then ((⟨#[]⟩:ByteArray),false) else (fmtB x.w,true))=x.w:=by
  by_cases e:x.w=20000
  ·rw[if_pos e,num_none,e];rfl
  rw[if_neg e];exact(acc3 (by omega) (by omega) h1 h2).2
 have e3:numT (3,1,1048576,10000) (if x.h=10000 then ((⟨#[]⟩:ByteArray),false) else (fmtB x.h,true))=x.h:=by
  by_cases e:x.h=10000
  ·rw[if_pos e,num_none,e];rfl
  rw[if_neg e];exact(acc3 (by omega) (by omega) h3 h4).2
 have e4:(portsV (if x.ports=[] then ((⟨#[]⟩:ByteArray),false) else (portsTx x.ports,true)).1).1=x.ports:=by
  have:=ports_back h5;by_cases e:x.ports=[]
  ·rw[if_pos e] at this ⊢;dsimp only;rw[this]
  rw[if_neg e] at this ⊢;dsimp only;rw[this]
 rw[e1,e2,e3,e4]
end Go.Proofs.YtjaeedbjknejdaaGreatDoor.Ex

namespace Go.Proofs.YtjaeedbjknejdaaGreatDoor.Ex
open Go.Lib Fx Lx Tr At Go.Proofs.YtjaeedbjknejdaaGreatDoor.Nm
def Run (p:Pl)(S:St)(L:List Stm)(S':St):Prop:=∀ M,blkL p S (L++M)=blkL p S' M
theorem Run.nil (p:Pl)(S:St):Run p S [] S:=fun _=>rfl
theorem Run.cons {p:Pl}{S S1 S':St}{x:Stm}{L:List Stm}(h:blkS p S x=.ok (p,S1))(h2:Run p S1 L S'):Run p S (x::L) S':=fun M=>by
 rw[List.cons_append,blkL,h];exact h2 M
theorem Run.app {p:Pl}{S S1 S':St}{L K:List Stm}(h:Run p S L S1)(h2:Run p S1 K S'):Run p S (L++K) S':=fun M=>by
 rw[List.append_assoc,h,h2]
theorem Run.all {p:Pl}{S S':St}{L:List Stm}(h:Run p S L S'):blkL p S L=.ok S':=by
 have:=h [];rw[List.append_nil] at this;rw[this,blkL]
theorem chk_all {kind:Int}{key:Option ByteArray}:∀ (L:List Two),(∀ q ∈ L,checkV kind (key.getD q.1) q.2=0)->chkGo kind key L=0
 | [],_=>rfl
 | q::r,h=>by
  unfold chkGo;rw[if_neg (by rw[h q (by simp)];decide)];exact chk_all r fun x hx=>h x (by simp[hx])
def TxOk (s:ByteArray):Prop:=s.size<=32/\s.data.toList.all Tr.okT=true
theorem attrs_tx {kind:Int}:∀ (L D:List Two),attrsGo kind L D=0->∀ q ∈ L,TxOk q.2
 | [],_,_,q,hq=>by cases hq
 | x::r,D,h,q,hq=>by
  unfold attrsGo at h;split at h
  ·exact absurd h (by decide)
  ·split at h
   ·exact absurd h (by decide)
   split at h
   ·exact absurd h (by decide)
   split at h
   ·exact absurd h (by decide)
   rename_i h1 h2 h3 h4;rcases List.mem_cons.1 hq with rfl | hq
   ·exact⟨by omega,by simpa using h4⟩
   exact attrs_tx r _ h q hq
theorem first_all : ∀ (L:List (Stm × Nat)),firstE L=0->∀ p ∈ L,stmE p=0
 | [],_,p,hp=>by cases hp
 | x::r,h,p,hp=>by
  unfold firstE at h;by_cases h1:stmE x=0
  ·rw[if_neg (by rw[h1];decide)] at h;rcases List.mem_cons.1 hp with rfl | hp
   ·exact h1
   exact first_all r h p hp
  ·rw[if_pos h1] at h;exact absurd h h1
theorem stm_tx {p:Stm × Nat}(h:stmE p=0):∀ q ∈ p.1.attrs,TxOk q.2:=by
 unfold stmE at h;split at h
 ·exact absurd h (by decide)
 split at h
 ·exact absurd h (by decide)
 split at h
 ·exact absurd h (by decide)
 split at h
 ·exact absurd h (by decide)
 unfold attrsE at h;split at h
 ·exact absurd h (by decide)
 exact attrs_tx _ _ h
def TxL (lev:Nat)(L:List Stm):Prop:=∀ p ∈ flatL lev L,∀ q ∈ p.1.attrs,TxOk q.2
theorem valid_tx {nm:ByteArray}{B:List Stm}(h:validE nm B=0):TxL 0 B:=by
 unfold validE at h;split at h
 ·exact absurd h (by decide)
 split at h
 ·exact absurd h (by decide)
 exact fun p hp=>stm_tx (first_all _ h p hp)
theorem tx_text {s:ByteArray}(h:TxOk s):textB s=true:=by
 unfold textB;rw[decide_eq_true h.1,Bool.true_and];exact h.2
theorem chk_node {nc:Nat}{D:List Nd}{x:Nd}(h:ndE nc D x=0)(ht:∀ q ∈ nodeA x,TxOk q.2):chkS (nodeS x)=0:=by
 obtain⟨-,-,hl,h1,h2,h3,h4,-,-,h5⟩:=nd_ok h;show chkGo 1 none (nodeA x)=0;refine chk_all _ fun q hq=>?_
 have htq:=tx_text (ht q hq);have hs:=(ht q hq).1;show checkV 1 q.1 q.2=0
 have mem:∀ {c:Prop} [Decidable c] {k v:ByteArray},q ∈ opA c k v->q=(k,v)/\¬ c:=fun {c} _ {k v} hm=>by
  unfold opA at hm;split at hm
  ·cases hm
  rename_i hc;exact⟨List.mem_singleton.1 hm,hc⟩
 rw[nodeA_op] at hq;rcases List.mem_append.1 hq with hq | hq
 ·rcases List.mem_append.1 hq with hq | hq
  ·rcases List.mem_append.1 hq with hq | hq
   ·obtain⟨rfl,-⟩:=mem hq;unfold checkV;rw[show ruleT 1 kHeight.data.toList=(3,1,1048576,10000) by decide];dsimp only;rw[if_neg (by decide),if_neg (by decide),if_neg (by simp),(acc3 (by omega) (by omega) h3 h4).1,if_pos rfl]
   obtain⟨rfl,-⟩:=mem hq;unfold checkV;rw[show ruleT 1 kLabel.data.toList=(1,0,0,0) by decide];dsimp only at hs htq ⊢;rw[if_neg (by decide),if_neg (by decide),if_neg (by omega)];unfold accB;dsimp only;rw[if_pos rfl,htq,if_pos rfl]
  obtain⟨rfl,hp⟩:=mem hq;have hb:=ports_back h5;rw[if_neg hp] at hb;unfold checkV;rw[show ruleT 1 kPorts.data.toList=(2,0,0,0) by decide];dsimp only at hs htq ⊢
  have hacc:accB (2,0,0,0) (portsTx x.ports)=true:=by
   unfold accB;dsimp only;rw[if_neg (by decide),if_pos rfl,htq,hb]
   rfl
  rw[if_neg (by decide),if_neg (by decide),if_neg (by simp),hacc,if_pos rfl]
 obtain⟨rfl,-⟩:=mem hq;unfold checkV;rw[show ruleT 1 kWidth.data.toList=(3,1,1048576,20000) by decide];dsimp only;rw[if_neg (by decide),if_neg (by decide),if_neg (by simp),(acc3 (by omega) (by omega) h1 h2).1,if_pos rfl]
theorem chk_edge {N:List Nd}{x:Ed}(h:edE N x=0)(ht:∀ q ∈ edgeA x,TxOk q.2):chkS (edgeS N x)=0:=by
 obtain⟨-,-,-,-,-,-,-,-,hl,t0,t1,l0,l1⟩:=ed_ok h;show chkGo 2 none (edgeA x)=0;refine chk_all _ fun q hq=>?_
 have htq:=tx_text (ht q hq);have hs:=(ht q hq).1;show checkV 2 q.1 q.2=0
 have mem:∀ {c:Prop} [Decidable c] {k v:ByteArray},q ∈ opA c k v->q=(k,v)/\¬ c:=fun {c} _ {k v} hm=>by
  unfold opA at hm;split at hm
  ·cases hm
  rename_i hc;exact⟨List.mem_singleton.1 hm,hc⟩
 rw[edgeA_op] at hq;rcases List.mem_append.1 hq with hq | hq
 ·rcases List.mem_append.1 hq with hq | hq
  ·obtain⟨rfl,-⟩:=mem hq;unfold checkV;rw[show ruleT 2 kLabel.data.toList=(1,0,0,0) by decide];dsimp only at hs htq ⊢;rw[if_neg (by decide),if_neg (by decide),if_neg (by omega)];unfold accB;dsimp only;rw[if_pos rfl,htq,if_pos rfl]
  obtain⟨rfl,-⟩:=mem hq;unfold checkV;rw[show ruleT 2 kLen.data.toList=(4,1000,64000,1000) by decide];dsimp only;rw[if_neg (by decide),if_neg (by decide),if_neg (by simp),(acc4 (by omega) (by omega) (by omega) (by omega)).1,if_pos rfl]
 obtain⟨rfl,-⟩:=mem hq;unfold checkV;rw[show ruleT 2 kWeight.data.toList=(4,1000,1000000,1000) by decide];dsimp only;rw[if_neg (by decide),if_neg (by decide),if_neg (by simp),(acc4 (by omega) (by omega) (by omega) (by omega)).1,if_pos rfl]
def lkT (N:List Nd)(x:Ed):Lk:=⟨x.a.toNat,(endT N x.a x.ap).2,x.b.toNat,(endT N x.b x.bp).2,edgeA x⟩
def stT (g:Gr)(n k:Nat)(E:List Ed):St:=⟨(g.N.take n).map fun x=>(x.name,x.c),(g.N.take n).map nodeA,g.C.take k,E.map (lkT g.N)⟩
theorem idx_none (n:ByteArray):∀ (L:List (ByteArray × Int)) (k:Nat),(L.any fun q=>decide (q.1=n))=false->idxGo n k L=none
 | [],_,_=>rfl
 | q::r,k,h=>by
  simp only[List.any_cons,Bool.or_eq_false_iff,decide_eq_false_iff_not] at h;unfold idxGo;rw[if_neg h.1];exact idx_none n r (k+1) h.2
theorem take_succ_of {α : Type}{L:List α}{n:Nat}{x : α}(h:L[n]? = some x):L.take (n+1)=L.take n++[x]:=by
 rw[List.take_add_one,h];rfl
theorem node_new {g:Gr}(hok:GrOk g){n k:Nat}(hn:n < g.N.length){p:Pl}(hp:p.n=[])(hc:g.N[n].c=p.c)(E:List Ed)(ht:∀ q ∈ nodeA g.N[n],TxOk q.2):blkS p (stT g n k E) (nodeS g.N[n])=.ok (p,stT g (n+1) k E):=by
 have hnd:=hok.nd n hn;have hck:=chk_node hnd ht;have hgt:=List.getElem?_eq_getElem hn;obtain⟨x,hx⟩:∃ x,x=g.N[n]:=⟨_,rfl⟩;rw[<-hx] at hnd hck hc hgt ⊢;have hl:((g.N.take n).map fun x=>(x.name,x.c)).length=n:=by simp;omega
 have hu:(((g.N.take n).map fun x=>(x.name,x.c)).any fun q=>decide (q.1=x.name))=false:=by
  have:=(nd_ok hnd).2.1;rw[List.any_map];exact this
 have htk:(stT g n k E).taken x.name=false:=by
  refine Bool.eq_false_iff.2 fun e=>?_
  obtain⟨q,hq,he⟩:=List.any_eq_true.1 e;have hq2:q ∈ g.C:=List.mem_of_mem_take hq;obtain⟨i,hi,rfl⟩:=List.getElem_of_mem hq2;have h1:=(cl_ok (hok.cs i hi)).2.1
  have h2:(g.N.any fun p=>decide (p.name=g.C[i].1))=true:=List.any_eq_true.2 ⟨x,by rw[hx];exact List.getElem_mem hn,by
   have:=of_decide_eq_true he
   exact decide_eq_true this.symm⟩
  rw[h2] at h1;cases h1
 have hm:ment x.name p (stT g n k E)=.ok (n,{ (stT g n k E) with N:=(stT g n k E).N++[(x.name,p.c)],A:=(stT g n k E).A++[p.n] }):=by
  unfold ment;rw[htk,if_neg (by decide)];have:(stT g n k E).idx x.name=none:=idx_none _ _ 0 hu;rw[this];have:(stT g n k E).N.length=n:=hl;rw[this]
 unfold nodeS at hck ⊢;rw[blkS,if_neg (by rw[hck];decide),if_pos rfl,hm];dsimp only;have hA:(stT g n k E).A.length=n:=by show((g.N.take n).map nodeA).length=n;simp;omega
 have e1:((stT g n k E).A++[p.n]).getD n []=[]:=by
  rw[List.getD_eq_getElem?_getD,List.getElem?_append_right (by omega),hA,hp];simp
 have e2:((stT g n k E).A++[p.n]).set n (mrgT ([]++nodeA x))=(g.N.take (n+1)).map nodeA:=by
  rw[List.nil_append,mrg_asc (asc_node x),take_succ_of hgt,List.map_append];rw[List.set_append_right _ _ (by omega),hA,Nat.sub_self]
  rfl
 rw[e1,e2]
 have e3:(stT g n k E).N++[(x.name,p.c)]=(g.N.take (n+1)).map fun x=>(x.name,x.c):=by
  rw[take_succ_of hgt,List.map_append,<- hc];rfl
 rw[e3]
 rfl
theorem run_block {g:Gr}(hok:GrOk g)(E:List Ed):∀ (f:Nat) (p:Pl) (n k lev:Nat),p.n=[]->p.e=[]->n<=g.N.length->k<=g.C.length->TxL lev (blockT g f p.c n k).1->Run p (stT g n k E) (blockT g f p.c n k).1 (stT g (blockT g f p.c n k).2.1 (blockT g f p.c n k).2.2 E)
 | 0,p,n,k,_,_,_,_,_,_=>by rw[blockT];exact Run.nil _ _
 | f+1,p,n,k,lev,hpn,hpe,h1,h2,ht=>by
  rw[blockT] at ht ⊢;split at ht
  ·rename_i hr;rw[if_pos hr];have hk:=ready_lt hr;have hgt:=List.getElem?_eq_getElem hk;rw[hgt] at ht ⊢;simp only[Option.map_some,Option.getD_some] at ht ⊢;have a:=block_le g f k n (k+1) h1 hk;unfold TxL at ht;rw[flatL_cons,flatS_mk] at ht;have ht1:TxL (lev+1) (blockT g f k n (k+1)).1:=fun q hq=>ht q (by simp only[if_true];exact List.mem_append_left _ (List.mem_cons_of_mem _ hq))
   have ih:=run_block hok E f ⟨k,p.n,p.e⟩ n (k+1) (lev+1) hpn hpe h1 hk ht1;have ih2:=run_block hok E f p _ _ lev hpn hpe a.1 a.2 fun q hq=>ht q (List.mem_append_right _ hq)
   refine Run.cons ?_ ih2
   have hq:g.C[k].2=p.c:=by
    unfold readyT at hr;rw[hgt] at hr;simp only[Bool.and_eq_true,decide_eq_true_eq] at hr;exact hr.1
   have hcl:=cl_ok (hok.cs k hk);have hlk:(stT g n k E).C.length=k:=by show(g.C.take k).length=k;simp;omega
   have hno:¬ (((stT g n k E).idx g.C[k].1).isSome=true\/(stT g n k E).taken g.C[k].1=true):=by
    have hi:(stT g n k E).idx g.C[k].1=none:=idx_none _ _ 0 (by
     show(((g.N.take n).map fun x=>(x.name,x.c)).any fun q=>decide (q.1=g.C[k].1))=false;refine Bool.eq_false_iff.2 fun e=>?_
     obtain⟨q,hq,he⟩:=List.any_eq_true.1 e;obtain⟨y,hy,rfl⟩:=List.mem_map.1 hq;have h3:=hcl.2.1;rw[List.any_eq_true.2 ⟨y,List.mem_of_mem_take hy,he⟩] at h3
     cases h3)
    rw[hi];rintro(h | h)
    ·cases h
    have h3:((g.C.take k).any fun q=>decide (q.1=g.C[k].1))=true:=h;rw[hcl.2.2.1] at h3;cases h3
   rw[blkS,if_neg (by show ¬ (0:Int) ≠ 0;simp),if_neg (by decide),if_neg (by decide),if_neg (by decide),if_pos rfl,if_neg hno,hlk]
   have e1:({ (stT g n k E) with C:=(stT g n k E).C++[(g.C[k].1,p.c)] }:St)=stT g n (k+1) E:=by
    have:(g.C.take k)++[(g.C[k].1,p.c)]=g.C.take (k+1):=by rw[take_succ_of hgt,<- hq]
    unfold stT;rw[<-this]
   rw[e1];rw[show({ p with c:=(k:Int) }:Pl)=⟨k,p.n,p.e⟩ from rfl,Run.all ih]
  ·rename_i hr;rw[if_neg hr];cases hx:g.N[n]? with
   | none=>exact Run.nil _ _
   | some x =>
    rw[hx] at ht;dsimp only at ht ⊢;by_cases hc:x.c=p.c
    ·rw[if_pos hc] at ht ⊢;dsimp only at ht ⊢;have hn:=(List.getElem?_eq_some_iff.1 hx).1;have hxe:=(List.getElem?_eq_some_iff.1 hx).2;unfold TxL at ht;unfold nodeS at ht;rw[flatL_cons,flatS_mk] at ht;have ih:=run_block hok E f p (n+1) k lev hpn hpe hn h2 fun q hq=>ht q (List.mem_append_right _ hq)
     refine Run.cons ?_ ih;rw[<-hxe];exact node_new hok hn hpn (by rw[hxe];exact hc) E (by rw[hxe];exact ht _ (List.mem_append_left _ (List.mem_cons_self ..)))
    ·rw[if_neg hc] at ht ⊢;exact Run.nil _ _
end Go.Proofs.YtjaeedbjknejdaaGreatDoor.Ex

namespace Go.Proofs.YtjaeedbjknejdaaGreatDoor.Ex
open Go.Lib Fx Lx Tr At Go.Proofs.YtjaeedbjknejdaaGreatDoor.Nm
theorem idx_at (n:ByteArray):∀ (L:List (ByteArray × Int)) (k i:Nat) (h:i < L.length),L[i].1=n->((L.take i).any fun q=>decide (q.1=n))=false->idxGo n k L=some (k+i)
 | [],_,_,h,_,_=>absurd h (by simp)
 | q::r,k,0,_,e,_=>by unfold idxGo;rw[if_pos (by simpa using e)];rfl
 | q::r,k,i+1,h,e,hn=>by
  rw[List.take_succ_cons] at hn;simp only[List.any_cons,Bool.or_eq_false_iff,decide_eq_false_iff_not] at hn;unfold idxGo;rw[if_neg hn.1,idx_at n r (k+1) i (by simpa using h) (by simpa using e) hn.2]
  congr 1;omega
theorem ment_old {g:Gr}(hok:GrOk g)(E:List Ed)(p:Pl){i:Nat}(hi:i < g.N.length):ment g.N[i].name p (stT g g.N.length g.C.length E)=.ok (i,stT g g.N.length g.C.length E):=by
 have hl:(g.N.map fun x=>(x.name,x.c)).length=g.N.length:=by simp
 have hidx:(stT g g.N.length g.C.length E).idx g.N[i].name=some i:=by
  have:=idx_at g.N[i].name (g.N.map fun x=>(x.name,x.c)) 0 i (by rw[hl];exact hi) (by simp) (by
   rw[<-List.map_take,List.any_map]
   exact(nd_ok (hok.nd i hi)).2.1)
  rw[Nat.zero_add] at this;show idxGo g.N[i].name 0 ((g.N.take g.N.length).map fun x=>(x.name,x.c))=_;rw[List.take_length];exact this
 have htk:(stT g g.N.length g.C.length E).taken g.N[i].name=false:=by
  refine Bool.eq_false_iff.2 fun e=>?_
  obtain⟨q,hq,he⟩:=List.any_eq_true.1 e;have hq2:q ∈ g.C:=List.mem_of_mem_take hq;obtain⟨j,hj,rfl⟩:=List.getElem_of_mem hq2;have h1:=(cl_ok (hok.cs j hj)).2.1;rw[List.any_eq_true.2 ⟨g.N[i],List.getElem_mem hi,decide_eq_true (of_decide_eq_true he).symm⟩] at h1;cases h1
 unfold ment;rw[htk,if_neg (by decide),hidx]
theorem end_name {N:List Nd}{v p:Int}{i:Nat}(hv:v.toNat=i)(hi:i < N.length):(endT N v p).1=N[i].name:=by
 unfold endT;rw[hv,List.getElem?_eq_getElem hi]
theorem run_edge {g:Gr}(hok:GrOk g)(E:List Ed){x:Ed}(h:edE g.N x=0)(ht:∀ q ∈ edgeA x,TxOk q.2):blkS ⟨-1,[],[]⟩ (stT g g.N.length g.C.length E) (edgeS g.N x)=.ok (⟨-1,[],[]⟩,stT g g.N.length g.C.length (E++[x])):=by
 have hck:=chk_edge h ht;obtain⟨a0,a1,b0,b1,-⟩:=ed_ok h;have ha:x.a.toNat < g.N.length:=by omega
 have hb:x.b.toNat < g.N.length:=by omega
 have e1:=end_name (p:=x.ap) (rfl:x.a.toNat=x.a.toNat) ha;have e2:=end_name (p:=x.bp) (rfl:x.b.toNat=x.b.toNat) hb;have m1:=ment_old hok E ⟨-1,[],[]⟩ ha;have m2:=ment_old hok E ⟨-1,[],[]⟩ hb;rw[<-e1] at m1;rw[<-e2] at m2;unfold edgeS at hck ⊢;rw[blkS,if_neg (by rw[hck];decide),if_neg (by decide),if_pos rfl];dsimp only;rw[List.nil_append,mrg_asc (asc_edge x)];rw[chainT,m1];dsimp only;rw[chainT,m2];dsimp only;rw[chainT];dsimp only
 have:({ (stT g g.N.length g.C.length E) with K:=(stT g g.N.length g.C.length E).K++[⟨x.a.toNat,(endT g.N x.a x.ap).2,x.b.toNat,(endT g.N x.b x.bp).2,edgeA x⟩] }:St)=stT g g.N.length g.C.length (E++[x]):=by
  unfold stT;rw[List.map_append];rfl
 rw[this]
theorem run_edges {g:Gr}(hok:GrOk g):∀ (M E:List Ed),(∀ x ∈ M,edE g.N x=0/\∀ q ∈ edgeA x,TxOk q.2)->Run ⟨-1,[],[]⟩ (stT g g.N.length g.C.length E) (M.map (edgeS g.N)) (stT g g.N.length g.C.length (E++M))
 | [],E,_=>by rw[List.map_nil,List.append_nil];exact Run.nil _ _
 | x::M,E,h=>by
  rw[List.map_cons];have h1:=h x (by simp);have:=run_edges hok M (E++[x]) fun y hy=>h y (by simp[hy])
  rw[List.append_assoc] at this;exact Run.cons (run_edge hok E h1.1 h1.2) this
theorem finNs_back : ∀ (L:List Nd),(∀ x ∈ L,finN (x.name,x.c) (nodeA x)=x)->finNs (L.map fun x=>(x.name,x.c)) (L.map nodeA)=L
 | [],_=>rfl
 | x::r,h=>by
  rw[List.map_cons,List.map_cons,finNs,h x (by simp),finNs_back r fun y hy=>h y (by simp[hy])]
theorem portGo_at (n:ByteArray):∀ (L:List Prt) (k:Int) (i:Nat) (h:i < L.length),L[i].1=n->((L.take i).any fun q=>decide (q.1=n))=false->portGo n k L=k+i
 | [],_,_,h,_,_=>absurd h (by simp)
 | q::r,k,0,_,e,_=>by unfold portGo;rw[if_pos (by simpa using e)];simp
 | q::r,k,i+1,h,e,hn=>by
  rw[List.take_succ_cons] at hn;simp only[List.any_cons,Bool.or_eq_false_iff,decide_eq_false_iff_not] at hn;unfold portGo;rw[if_neg hn.1,portGo_at n r (k+1) i (by simpa using h) (by simpa using e) hn.2];omega
theorem name_pos {s:ByteArray}(h:nameB s.data.toList=true):¬ s.size=0:=fun e=>by
 have h1:=(name_bytes h).1;apply h1;apply List.length_eq_zero_iff.1;rw[<-size_len];exact e
theorem port_back {g:Gr}(hok:GrOk g){v p:Int}{i:Nat}(hv:v.toNat=i)(hi:i < g.N.length)(h0 : -1<=p)(h1:p < portsOf g.N v):portT ((g.N[i]?.map Nd.ports).getD []) (endT g.N v p).2=p:=by
 have hpr:=prt_ok (nd_ok (hok.nd i hi)).2.2.2.2.2.2.2.2.2;unfold portsOf at h1;unfold endT portT;rw[hv,List.getElem?_eq_getElem hi] at h1 ⊢;simp only[Option.map_some,Option.getD_some] at h1 ⊢;by_cases hp:p < 0
 ·rw[if_pos hp];have:p = -1:=by omega
  rw[this];rfl
 rw[if_neg hp];have hlt:p.toNat < g.N[i].ports.length:=by omega
 rw[List.getElem?_eq_getElem hlt];simp only[Option.map_some,Option.getD_some];obtain⟨a,b,-,-⟩:=hpr.2 p.toNat hlt;rw[if_neg (name_pos a),portGo_at _ _ 0 p.toNat hlt rfl b];omega
theorem edge_back {g:Gr}(hok:GrOk g){x:Ed}(h:edE g.N x=0):finE g.N (lkT g.N x)=some x:=by
 obtain⟨a0,a1,b0,b1,p0,p1,q0,q1,hl,t0,t1,l0,l1⟩:=ed_ok h;have ea:=port_back hok (v:=x.a) (p:=x.ap) rfl (by omega) p0 p1;have eb:=port_back hok (v:=x.b) (p:=x.bp) rfl (by omega) q0 q1;obtain⟨g1,g2,g3⟩:=edge_get x;have ea':portT ((g.N[(lkT g.N x).a]?.map Nd.ports).getD []) (lkT g.N x).ap=x.ap:=ea;have eb':portT ((g.N[(lkT g.N x).b]?.map Nd.ports).getD []) (lkT g.N x).bp=x.bp:=eb;unfold finE;dsimp only;rw[ea',eb',if_neg (by omega)];show some (⟨(x.a.toNat:Nat),(x.b.toNat:Nat),x.ap,x.bp,labelT (edgeA x) ⟨#[]⟩,numK 2 (edgeA x) kWeight,numK 2 (edgeA x) kLen⟩:Ed)=some x;unfold labelT numK;rw[g1,g2,g3];have r1:ruleT 2 kWeight.data.toList=(4,1000,1000000,1000):=by decide
 have r2:ruleT 2 kLen.data.toList=(4,1000,64000,1000):=by decide
 rw[r1,r2]
 have e1:(if(if x.label=⟨#[]⟩ then ((⟨#[]⟩:ByteArray),false) else (x.label,true)).2=true then (if x.label=⟨#[]⟩ then ((⟨#[]⟩:ByteArray),false) else (x.label,true)).1 else ⟨#[]⟩)=x.label:=by
  by_cases e:x.label=⟨#[]⟩
  ·simp[e]
  simp[e]
 have e2:numT (4,1000,1000000,1000) (if x.wt=1 then ((⟨#[]⟩:ByteArray),false) else (fmtB (1000 * x.wt),true))=x.wt:=by
  by_cases e:x.wt=1
  ·rw[if_pos e,num_none,e];rfl
  rw[if_neg e];exact(acc4 (by omega) (by omega) (by omega) (by omega)).2
 have e3:numT (4,1000,64000,1000) (if x.len=1 then ((⟨#[]⟩:ByteArray),false) else (fmtB (1000 * x.len),true))=x.len:=by
  by_cases e:x.len=1
  ·rw[if_pos e,num_none,e];rfl
  rw[if_neg e];exact(acc4 (by omega) (by omega) (by omega) (by omega)).2
 have ea2:((x.a.toNat:Nat):Int)=x.a:=by omega
 have eb2:((x.b.toNat:Nat):Int)=x.b:=by omega
 rw[e1,e2,e3,ea2,eb2]
theorem finEs_back {g:Gr}(hok:GrOk g):∀ (E:List Ed),(∀ x ∈ E,edE g.N x=0)->finEs g.N (E.map (lkT g.N))=some E
 | [],_=>rfl
 | x::r,h=>by
  rw[List.map_cons,finEs,edge_back hok (h x (by simp)),finEs_back hok r fun y hy=>h y (by simp[hy])]
  rfl
def opS (c:Prop)[Decidable c](k v:ByteArray):List Stm:=if c then [] else [setS k v]
theorem optsL_op (o:Op5):optsL o=opS (o.mode=0) kMode (modeT o.mode)++opS (o.ns=10000) kNs (fmtB o.ns)++opS (o.rs=20000) kRs (fmtB o.rs)++opS (o.mg=5000) kMg (fmtB o.mg)++opS (o.rd=8) kRd (fmtB (1000 * o.rd)):=rfl
theorem mode_back {m:Int}(h0:0<=m)(h1:m<=4):modeN (modeT m)=m/\checkV 4 kMode (modeT m)=0:=by
 have:m=0\/m=1\/m=2\/m=3\/m=4:=by omega
 rcases this with rfl | rfl | rfl | rfl | rfl <;> exact⟨by decide,by decide⟩
theorem chk_set (k v:ByteArray):chkS (setS k v)=if checkV 4 k v ≠ 0 then checkV 4 k v else 0:=rfl
theorem opS_mem {c:Prop}[Decidable c]{k v:ByteArray}{x:Stm}(h:x ∈ opS c k v):x=setS k v:=by
 unfold opS at h;split at h
 ·cases h
 exact List.mem_singleton.1 h
theorem opts_chk {o:Op5}(h:inR5 o=true):∀ x ∈ optsL o,(∃ k v,x=setS k v)/\chkS x=0:=by
 obtain⟨m0,m1,a0,a1,b0,b1,c0,c1,d0,d1⟩:=inR5_ok h;have r1:ruleT 4 kNs.data.toList=(3,0,1048576,10000):=by decide
 have r2:ruleT 4 kRs.data.toList=(3,0,1048576,20000):=by decide
 have r3:ruleT 4 kMg.data.toList=(3,0,1048576,5000):=by decide
 have r4:ruleT 4 kRd.data.toList=(4,0,100000,8000):=by decide
 have c3:∀ (k v:ByteArray) (lo hi d:Int),ruleT 4 k.data.toList=(3,lo,hi,d)->accB (3,lo,hi,d) v=true->chkS (setS k v)=0:=fun k v lo hi d hr ha=>by
  rw[chk_set]
  have:checkV 4 k v=0:=by
   unfold checkV;rw[hr];dsimp only;rw[if_neg (by decide),if_neg (by decide),if_neg (by simp),ha,if_pos rfl]
  rw[this];rfl
 have c4:∀ (k v:ByteArray) (lo hi d:Int),ruleT 4 k.data.toList=(4,lo,hi,d)->accB (4,lo,hi,d) v=true->chkS (setS k v)=0:=fun k v lo hi d hr ha=>by
  rw[chk_set]
  have:checkV 4 k v=0:=by
   unfold checkV;rw[hr];dsimp only;rw[if_neg (by decide),if_neg (by decide),if_neg (by simp),ha,if_pos rfl]
  rw[this];rfl
 intro x hx;rw[optsL_op] at hx;simp only[List.mem_append] at hx;rcases hx with(((hx | hx) | hx) | hx) | hx
 ·rw[opS_mem hx];exact⟨⟨_,_,rfl⟩,by rw[chk_set,(mode_back m0 m1).2];rfl⟩
 ·rw[opS_mem hx];exact⟨⟨_,_,rfl⟩,c3 _ _ _ _ _ r1 (acc3 a0 a1 a0 a1).1⟩
 ·rw[opS_mem hx];exact⟨⟨_,_,rfl⟩,c3 _ _ _ _ _ r2 (acc3 b0 b1 b0 b1).1⟩
 ·rw[opS_mem hx];exact⟨⟨_,_,rfl⟩,c3 _ _ _ _ _ r3 (acc3 c0 c1 c0 c1).1⟩
 rw[opS_mem hx];exact⟨⟨_,_,rfl⟩,c4 _ _ _ _ _ r4 (acc4 d0 (by omega) (by omega) (by omega)).1⟩
theorem run_opts (p:Pl)(S:St):∀ (L:List Stm),(∀ x ∈ L,(∃ k v,x=setS k v)/\chkS x=0)->Run p S L S
 | [],_=>Run.nil _ _
 | x::r,h=>by
  obtain⟨⟨k,v,rfl⟩,hc⟩:=h x (by simp);refine Run.cons ?_ (run_opts p S r fun y hy=>h y (by simp[hy]));unfold setS at hc ⊢;rw[blkS,if_neg (by rw[hc];decide),if_neg (by decide),if_neg (by decide),if_neg (by decide),if_neg (by decide)]
theorem txl_app {lev:Nat}{L M:List Stm}(h:TxL lev (L++M)):TxL lev L/\TxL lev M:=by
 unfold TxL at h;rw[flatL_app] at h;exact⟨fun p hp=>h p (List.mem_append_left _ hp),fun p hp=>h p (List.mem_append_right _ hp)⟩
theorem txl_edges {N:List Nd}:∀ (E:List Ed),TxL 0 (E.map (edgeS N))->∀ x ∈ E,∀ q ∈ edgeA x,TxOk q.2
 | [],_,x,hx=>by cases hx
 | y::r,h,x,hx=>by
  unfold TxL at h;rw[List.map_cons,flatL_cons] at h;rcases List.mem_cons.1 hx with rfl | hx
  ·unfold edgeS at h;rw[flatS_mk] at h;exact h _ (List.mem_append_left _ (List.mem_cons_self ..))
  ·exact txl_edges r (fun p hp=>h p (List.mem_append_right _ hp)) x hx
theorem graph_back {g:Gr}{o:Op5}{B:List Stm}(h:treeT g o=.ok B):buildT g.name g.dir B=.ok g:=by
 unfold treeT at h;split at h
 ·cases h
 rename_i h1;split at h
 ·cases h
 rename_i h2;split at h
 ·cases h
 rename_i h3;injection h with h;subst h;have hg:grE g=0:=Classical.not_not.1 fun e=>h1 (.inl e)
 have ho:inR5 o=true:=by
  cases e:inR5 o
  ·exact absurd (.inr e) h1
  rfl
 have hv:validE g.name (bodyT g o)=0:=Classical.not_not.1 h3;have hok:=gr_ok hg;have hle:=blk_le (g:=g) (p := -1) (Nat.zero_le g.N.length) (Nat.zero_le g.C.length);have hn:(blkT g (-1) 0 0).2.1=g.N.length:=by have:=hle.1;omega
 have hc:(blkT g (-1) 0 0).2.2=g.C.length:=by have:=hle.2;omega
 have htx:=valid_tx hv;unfold bodyT at htx;obtain⟨t1,t2⟩:=txl_app htx;obtain⟨-,t3⟩:=txl_app t1
 have hr:Run ⟨-1,[],[]⟩ ⟨[],[],[],[]⟩ (bodyT g o) (stT g g.N.length g.C.length g.E):=by
  have r1:=run_opts ⟨-1,[],[]⟩ ⟨[],[],[],[]⟩ (optsL o) (opts_chk ho);have r2:=run_block hok [] (msr g 0 0+1) ⟨-1,[],[]⟩ 0 0 0 rfl rfl (Nat.zero_le _) (Nat.zero_le _) t3;have e0:stT g 0 0 []=⟨[],[],[],[]⟩:=rfl;rw[e0] at r2;have r3:=run_edges hok g.E [] fun x hx=>⟨hok.ed x hx,txl_edges g.E t2 x hx⟩
  rw[List.nil_append] at r3;have r2':Run ⟨-1,[],[]⟩ ⟨[],[],[],[]⟩ (blkT g (-1) 0 0).1 (stT g (blkT g (-1) 0 0).2.1 (blkT g (-1) 0 0).2.2 []):=r2;rw[hn,hc] at r2';exact(r1.app r2').app r3
 unfold buildT;rw[if_neg (by rw[hv];decide),Run.all hr];dsimp only
 have e1:finNs (stT g g.N.length g.C.length g.E).N (stT g g.N.length g.C.length g.E).A=g.N:=by
  show finNs ((g.N.take g.N.length).map fun x=>(x.name,x.c)) ((g.N.take g.N.length).map nodeA)=g.N;rw[List.take_length];refine finNs_back _ fun x hx=>?_
  obtain⟨i,hi,rfl⟩:=List.getElem_of_mem hx;exact node_back (hok.nd i hi)
 have e2:finEs g.N (stT g g.N.length g.C.length g.E).K=some g.E:=finEs_back hok g.E hok.ed;have e3:(stT g g.N.length g.C.length g.E).C=g.C:=List.take_length ..;rw[e1,e2,e3];dsimp only;rw[if_neg (by rw[hg];decide)]
end Go.Proofs.YtjaeedbjknejdaaGreatDoor.Ex
