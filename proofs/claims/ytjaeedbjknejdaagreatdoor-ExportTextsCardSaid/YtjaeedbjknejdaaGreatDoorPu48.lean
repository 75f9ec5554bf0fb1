/- Packed texts: ExpOpn, ExpAwk, ExpLawU -/
import Derived.Test.YtjaeedbjknejdaaGreatDoorPu47
set_option linter.unusedVariables false
set_option linter.unusedSimpArgs false
set_option maxHeartbeats 16000000
set_option maxRecDepth 100000
namespace Go.Proofs.YtjaeedbjknejdaaGreatDoor.Ex
open Go.RowKit Go.Lib Fx Lx Tr At Pa Go.ChangeShapes Go.WideShapes Go.Deep Go.Proofs.YtjaeedbjknejdaaGreatDoor.Nm
theorem cPort : Tryz.prog.cellsOf 167=2:=by kernel_rfl
theorem cNode : Tryz.prog.cellsOf 59=6:=by kernel_rfl
theorem cEdge : Tryz.prog.cellsOf 61=7:=by kernel_rfl
theorem cClus : Tryz.prog.cellsOf 63=2:=by kernel_rfl
theorem cGraph : Tryz.prog.cellsOf 26=5:=by kernel_rfl
theorem cPorts : Tryz.prog.cellsOf 57=1:=by kernel_rfl
theorem fs_port : ∃ fs,Tryz.prog.underlying 167=some (.struct fs)/\fs.toList.map (·.type)=[9,3]:=⟨_,Tryz.underlying167,rfl⟩
theorem fs_node : ∃ fs,Tryz.prog.underlying 59=some (.struct fs)/\fs.toList.map (·.type)=[9,9,3,3,3,57]:=⟨_,Tryz.underlying59,rfl⟩
theorem fs_edge : ∃ fs,Tryz.prog.underlying 61=some (.struct fs)/\fs.toList.map (·.type)=[3,3,3,3,9,3,3]:=⟨_,Tryz.underlying61,rfl⟩
theorem fs_clus : ∃ fs,Tryz.prog.underlying 63=some (.struct fs)/\fs.toList.map (·.type)=[9,3]:=⟨_,Tryz.underlying63,rfl⟩
theorem fs_graph : ∃ fs,Tryz.prog.underlying 26=some (.struct fs)/\fs.toList.map (·.type)=[9,4,22,23,24]:=⟨_,Tryz.underlying26,rfl⟩
instance : Inhabited Nd:=⟨⟨⟨#[]⟩,⟨#[]⟩,0,0,0,[]⟩⟩
instance : Inhabited Ed:=⟨⟨0,0,0,0,⟨#[]⟩,0,0⟩⟩
section
variable {H:Type} {enc:TypeId × Value->H} {W:World} {base:Nat} {sp:Nat->Bool} {held:Bool}
theorem open_rows {α : Type}[Inhabited α]{t e:TypeId}{c:Nat}(hc0:0 < c)(hu:Tryz.prog.underlying t=some (.slice e))(hce:Tryz.prog.cellsOf e=c)(Q : α -> List Value->Prop)(hQ:∀ y cs,Q y cs->cs.length=c)(Z : α -> DataW H->Prop)
    (ho:∀ {n:Nat} {cs:List Value} {x:DataW H × List MemPlace},DataW.trod enc Tryz.prog W base sp held n e cs=some x->∃ y : α,Q y cs/\Z y x.1)
    {fuel:Nat} {cs:List Value} {x:DataW H × List MemPlace} (h:DataW.trod enc Tryz.prog W base sp held fuel t cs=some x) :
    ∃ (a:Option Addr) (L:List α) (cap:Nat),cs=[.slice a L.length cap]/\L.length<=cap/\cap<=maxLen /\
      (∀ k (hk:k < L.length),∃ g o xs,a=some ⟨g,o,none⟩/\xs.length=c/\Q L[k] xs/\∀ j (hj:j < xs.length),W.cell? ⟨g,o+k * c+j,none⟩=some xs[j]) /\
      (∀ k (hk:k < L.length),∃ d,Z L[k] d/\∀ m ∈ d.weights Tryz.prog e,m ∈ x.1.weights Tryz.prog t):=by
  rcases open_slice hu h with⟨rfl,rfl⟩ | ⟨a,len,cap,m,n,D,Pl,rfl,_,hl,hm,hmm,hxx,hx⟩
  · exact⟨none,[],0,rfl,Nat.le_refl _,Nat.zero_le _,(fun k h=>absurd h (Nat.not_lt_zero _)),(fun k h=>absurd h (Nat.not_lt_zero _))⟩
  have hlm:len<=m:=by rw[hmm];split <;> omega
  rw[hce] at hx
  have hone:∀ i,i < len->∃ y : α,Z y (D i)/\∃ g o xs,a=⟨g,o,none⟩/\xs.length=c/\Q y xs/\∀ j (hj:j < xs.length),W.cell? ⟨g,o+i * c+j,none⟩=some xs[j]:=fun i hi=>by
    obtain⟨cs',h1,h2⟩:=hx i (by omega);obtain⟨y,hq,hz⟩:=ho h2;have hlen:=hQ y cs' hq;obtain⟨_,_,hc⟩:=World.cells?_some h1;obtain⟨g,o,spot⟩:=a
    have hspot:spot=none:=by
      obtain⟨cs0,q1,q2⟩:=hx 0 (by omega);obtain⟨y0,hq0,_⟩:=ho q2;have hlen0:=hQ y0 cs0 hq0;obtain⟨_,_,hc0'⟩:=World.cells?_some q1;have h:=World.cell?_spot ((hc0' 0 hc0).trans (List.getElem?_eq_getElem (by omega)))
      simpa [Addr.add] using h
    subst hspot;refine⟨y,hz,g,o,cs',rfl,hlen,hq,fun j hj=>?_⟩;have:=(hc j (by omega)).trans (List.getElem?_eq_getElem hj)
    rw[show((⟨g,o,none⟩:Addr).add (i * c)).add j=⟨g,o+i * c+j,none⟩ from by
      simp only[Addr.add];by_cases h1:i * c=0
      · rw[h1];by_cases h2:j=0 <;> simp[h2]
      by_cases h2:j=0 <;> simp[h1,h2]] at this
    exact this
  obtain⟨F,hF⟩:=choose_lt (α := α) hone;refine⟨some a,(List.range len).map F,cap,by simp,by simp;omega,hm,fun k hk=>?_,fun k hk=>?_⟩
  · have hk':k < len:=by simpa using hk
    obtain⟨_,g,o,xs,rfl,h1,h2,h3⟩:=hF k hk';exact⟨g,o,xs,rfl,h1,by simpa using h2,h3⟩
  have hk':k < len:=by simpa using hk
  refine⟨D k,by simpa using (hF k hk').1,fun z hz=>?_⟩;rw[hxx,DataW.weights];simp only[hu,List.mem_cons,List.mem_append];exact .inr (.inl (weightsAll_of (List.mem_map.2 ⟨k,List.mem_range.2 hk',rfl⟩) z hz))
theorem open_port {n:Nat}{cs:List Value}{x:DataW H × List MemPlace}(h:DataW.trod enc Tryz.prog W base sp held n 167 cs=some x):
    ∃ y:Prt,cs=[.string y.1,.int .i64 y.2]/\((∀ m ∈ x.1.weights Tryz.prog 167,m<=reachN)->y.1.size<=reachN):=by
  obtain⟨xs,n',_,rfl,hlen,hxl,hg⟩:=DataW.trod_struct Tryz.underlying167 h;rw[cPort] at hlen;have hxl2:xs.length=2:=hxl;clear hxl
  match cs,hlen with
  | [p0,p1],_ =>
    obtain⟨y0,y1,rfl⟩:∃ y0 y1,xs=[y0,y1]:=by
      match xs,hxl2 with
      | [y0,y1],_=>exact⟨y0,y1,rfl⟩
    have g0:DataW.trod enc Tryz.prog W base sp held n' 9 [p0]=some y0:=by simpa [cStr] using hg 0 _ rfl
    have g1:DataW.trod enc Tryz.prog W base sp held n' 3 [p1]=some y1:=by simpa [cInt] using hg 1 _ rfl
    obtain⟨nm,e0,r0,_⟩:=DataW.trod_string Tryz.underlying9 g0;obtain⟨k,e1,r1,_⟩:=DataW.trod_int Tryz.underlying3 g1;simp only[List.cons.injEq,and_true] at e0 e1;subst e0;subst e1;subst r0;subst r1;refine⟨(nm,k),rfl,fun hw=>?_⟩;obtain⟨fs,hus,hft⟩:=fs_port;rw[DataW.weights] at hw;simp only[hus,hft,List.map_cons,List.map_nil,DataW.weightsEach,DataW.weights,List.append_nil,List.nil_append,List.mem_append,List.mem_singleton] at hw;have s1:=hw _ rfl;rw[<-size_len] at s1;exact s1
theorem open_clus {n:Nat}{cs:List Value}{x:DataW H × List MemPlace}(h:DataW.trod enc Tryz.prog W base sp held n 63 cs=some x):
    ∃ y:ByteArray × Int,cs=[.string y.1,.int .i64 y.2]/\((∀ m ∈ x.1.weights Tryz.prog 63,m<=reachN)->y.1.size<=reachN):=by
  obtain⟨xs,n',_,rfl,hlen,hxl,hg⟩:=DataW.trod_struct Tryz.underlying63 h;rw[cClus] at hlen;have hxl2:xs.length=2:=hxl;clear hxl
  match cs,hlen with
  | [p0,p1],_ =>
    obtain⟨y0,y1,rfl⟩:∃ y0 y1,xs=[y0,y1]:=by
      match xs,hxl2 with
      | [y0,y1],_=>exact⟨y0,y1,rfl⟩
    have g0:DataW.trod enc Tryz.prog W base sp held n' 9 [p0]=some y0:=by simpa [cStr] using hg 0 _ rfl
    have g1:DataW.trod enc Tryz.prog W base sp held n' 3 [p1]=some y1:=by simpa [cInt] using hg 1 _ rfl
    obtain⟨nm,e0,r0,_⟩:=DataW.trod_string Tryz.underlying9 g0;obtain⟨k,e1,r1,_⟩:=DataW.trod_int Tryz.underlying3 g1;simp only[List.cons.injEq,and_true] at e0 e1;subst e0;subst e1;subst r0;subst r1;refine⟨(nm,k),rfl,fun hw=>?_⟩;obtain⟨fs,hus,hft⟩:=fs_clus;rw[DataW.weights] at hw;simp only[hus,hft,List.map_cons,List.map_nil,DataW.weightsEach,DataW.weights,List.append_nil,List.nil_append,List.mem_append,List.mem_singleton] at hw;have s1:=hw _ rfl;rw[<-size_len] at s1;exact s1
theorem open_edge {n:Nat}{cs:List Value}{x:DataW H × List MemPlace}(h:DataW.trod enc Tryz.prog W base sp held n 61 cs=some x):
    ∃ y:Ed,cs=[.int .i64 y.a,.int .i64 y.b,.int .i64 y.ap,.int .i64 y.bp,.string y.label,.int .i64 y.wt,.int .i64 y.len]/\((∀ m ∈ x.1.weights Tryz.prog 61,m<=reachN)->y.label.size<=reachN):=by
  obtain⟨xs,n',_,rfl,hlen,hxl,hg⟩:=DataW.trod_struct Tryz.underlying61 h;rw[cEdge] at hlen;have hxl2:xs.length=7:=hxl;clear hxl
  match cs,hlen with
  | [p0,p1,p2,p3,p4,p5,p6],_ =>
    obtain⟨y0,y1,y2,y3,y4,y5,y6,rfl⟩:∃ y0 y1 y2 y3 y4 y5 y6,xs=[y0,y1,y2,y3,y4,y5,y6]:=by
      match xs,hxl2 with
      | [y0,y1,y2,y3,y4,y5,y6],_=>exact⟨y0,y1,y2,y3,y4,y5,y6,rfl⟩
    have g0:DataW.trod enc Tryz.prog W base sp held n' 3 [p0]=some y0:=by simpa [cInt] using hg 0 _ rfl
    have g1:DataW.trod enc Tryz.prog W base sp held n' 3 [p1]=some y1:=by simpa [cInt] using hg 1 _ rfl
    have g2:DataW.trod enc Tryz.prog W base sp held n' 3 [p2]=some y2:=by simpa [cInt] using hg 2 _ rfl
    have g3:DataW.trod enc Tryz.prog W base sp held n' 3 [p3]=some y3:=by simpa [cInt] using hg 3 _ rfl
    have g4:DataW.trod enc Tryz.prog W base sp held n' 9 [p4]=some y4:=by simpa [cStr] using hg 4 _ rfl
    have g5:DataW.trod enc Tryz.prog W base sp held n' 3 [p5]=some y5:=by simpa [cInt] using hg 5 _ rfl
    have g6:DataW.trod enc Tryz.prog W base sp held n' 3 [p6]=some y6:=by simpa [cInt] using hg 6 _ rfl
    obtain⟨k0,e0,r0,_⟩:=DataW.trod_int Tryz.underlying3 g0;obtain⟨k1,e1,r1,_⟩:=DataW.trod_int Tryz.underlying3 g1;obtain⟨k2,e2,r2,_⟩:=DataW.trod_int Tryz.underlying3 g2;obtain⟨k3,e3,r3,_⟩:=DataW.trod_int Tryz.underlying3 g3;obtain⟨nm,e4,r4,_⟩:=DataW.trod_string Tryz.underlying9 g4;obtain⟨k5,e5,r5,_⟩:=DataW.trod_int Tryz.underlying3 g5;obtain⟨k6,e6,r6,_⟩:=DataW.trod_int Tryz.underlying3 g6;simp only[List.cons.injEq,and_true] at e0 e1 e2 e3 e4 e5 e6;subst e0;subst e1;subst e2;subst e3;subst e4;subst e5;subst e6;subst r0;subst r1;subst r2;subst r3;subst r4;subst r5;subst r6;refine⟨⟨k0,k1,k2,k3,nm,k5,k6⟩,rfl,fun hw=>?_⟩;obtain⟨fs,hus,hft⟩:=fs_edge;rw[DataW.weights] at hw
    simp only[hus,hft,List.map_cons,List.map_nil,DataW.weightsEach,DataW.weights,List.append_nil,List.nil_append,List.mem_append,List.mem_singleton] at hw;have s1:=hw _ rfl;rw[<-size_len] at s1;exact s1
def SmN (x:Nd):Prop:=x.name.size<=reachN/\x.label.size<=reachN/\∀ q ∈ x.ports,q.1.size<=reachN
theorem open_node {n:Nat}{cs:List Value}{x:DataW H × List MemPlace}(h:DataW.trod enc Tryz.prog W base sp held n 59 cs=some x):
    ∃ y:Nd,(∃ p c,cs=[.string y.name,.string y.label,.int .i64 y.w,.int .i64 y.h,.int .i64 y.c,.slice p y.ports.length c]/\PrtIn W p y.ports/\y.ports.length<=c/\c<=maxLen)/\((∀ m ∈ x.1.weights Tryz.prog 59,m<=reachN)->SmN y):=by
  obtain⟨xs,n',_,rfl,hlen,hxl,hg⟩:=DataW.trod_struct Tryz.underlying59 h;rw[cNode] at hlen;have hxl2:xs.length=6:=hxl;clear hxl
  match cs,hlen with
  | [p0,p1,p2,p3,p4,p5],_ =>
    obtain⟨y0,y1,y2,y3,y4,y5,rfl⟩:∃ y0 y1 y2 y3 y4 y5,xs=[y0,y1,y2,y3,y4,y5]:=by
      match xs,hxl2 with
      | [y0,y1,y2,y3,y4,y5],_=>exact⟨y0,y1,y2,y3,y4,y5,rfl⟩
    have g0:DataW.trod enc Tryz.prog W base sp held n' 9 [p0]=some y0:=by simpa [cStr] using hg 0 _ rfl
    have g1:DataW.trod enc Tryz.prog W base sp held n' 9 [p1]=some y1:=by simpa [cStr] using hg 1 _ rfl
    have g2:DataW.trod enc Tryz.prog W base sp held n' 3 [p2]=some y2:=by simpa [cInt] using hg 2 _ rfl
    have g3:DataW.trod enc Tryz.prog W base sp held n' 3 [p3]=some y3:=by simpa [cInt] using hg 3 _ rfl
    have g4:DataW.trod enc Tryz.prog W base sp held n' 3 [p4]=some y4:=by simpa [cInt] using hg 4 _ rfl
    have g5:DataW.trod enc Tryz.prog W base sp held n' 57 [p5]=some y5:=by simpa [cPorts] using hg 5 _ rfl
    obtain⟨nm,e0,r0,_⟩:=DataW.trod_string Tryz.underlying9 g0;obtain⟨lb,e1,r1,_⟩:=DataW.trod_string Tryz.underlying9 g1;obtain⟨k2,e2,r2,_⟩:=DataW.trod_int Tryz.underlying3 g2;obtain⟨k3,e3,r3,_⟩:=DataW.trod_int Tryz.underlying3 g3;obtain⟨k4,e4,r4,_⟩:=DataW.trod_int Tryz.underlying3 g4;obtain⟨p,PL,pc,e5,l5,m5,q5,z5⟩:=open_rows (α := Prt) (by decide) Tryz.underlying57 cPort (fun y cs=>cs=[.string y.1,.int .i64 y.2]) (fun y cs h=>by rw[h];rfl) (fun y d=>(∀ m ∈ d.weights Tryz.prog 167,m<=reachN)->y.1.size<=reachN) (fun h=>open_port h) g5;simp only[List.cons.injEq,and_true] at e0 e1 e2 e3 e4 e5;subst e0;subst e1;subst e2;subst e3;subst e4;subst e5;subst r0;subst r1;subst r2;subst r3;subst r4;refine⟨⟨nm,lb,k2,k3,k4,PL⟩,⟨p,pc,rfl,fun k hk=>?_,l5,m5⟩,fun hw=>?_⟩
    · obtain⟨g,o,xs,ha,-,hxs,hc⟩:=q5 k hk;subst hxs;exact⟨g,o,ha,hc 0 (by simp),hc 1 (by simp)⟩
    · obtain⟨fs,hus,hft⟩:=fs_node;rw[DataW.weights] at hw;simp only[hus,hft,List.map_cons,List.map_nil,DataW.weightsEach,DataW.weights,List.append_nil,List.nil_append,List.mem_append,List.mem_singleton] at hw;have s1:=hw _ (.inl rfl);have s2:=hw _ (.inr (.inl rfl));rw[<-size_len] at s1 s2;refine⟨s1,s2,fun q hq=>?_⟩;obtain⟨k,hk,rfl⟩:=List.getElem_of_mem hq;obtain⟨d,hz,hd⟩:=z5 k hk;exact hz fun m hm=>hw m (.inr (.inr (hd m hm)))
def GrArg (w:World)(v:Value):Prop:=∃ (g:Gr) (na ea ca:Option Addr) (nac eac cac:Nat),v=.agg #[.string g.name,.bool g.dir,.slice na g.N.length nac,.slice ea g.E.length eac,.slice ca g.C.length cac]/\GrIn w v g/\GrCp w v g /\
  g.name.size<=reachN/\(∀ x ∈ g.N,SmN x)/\(∀ x ∈ g.E,x.label.size<=reachN)/\(∀ x ∈ g.C,x.1.size<=reachN)
theorem gr_arg {r:Reach}{b:Nat}{v:Value}{d:DataW H}{p:List MemPlace}
    (hv:Value.okWide Tryz.prog W r b 26 v) (h:DataW.Trod enc Tryz.prog W base sp held 26 v d p) (hz:∀ m ∈ d.weights Tryz.prog 26,m<=reachBytes):GrArg W v:=by
  obtain⟨cs,rfl,hsz⟩:=okWide_struct Tryz.underlying26 hv
  obtain⟨c0,c1,c2,c3,c4,rfl⟩:∃ c0 c1 c2 c3 c4,cs=#[c0,c1,c2,c3,c4]:=by
    obtain⟨l⟩:=cs
    match l,(hsz.trans cGraph) with
    | [c0,c1,c2,c3,c4],_=>exact⟨c0,c1,c2,c3,c4,rfl⟩
  obtain⟨fuel,hf⟩:=h;obtain⟨xs,n,_,hx,_,hxl,hg⟩:=DataW.trod_struct Tryz.underlying26 hf;have hxl2:xs.length=5:=hxl;clear hxl
  obtain⟨y0,y1,y2,y3,y4,rfl⟩:∃ y0 y1 y2 y3 y4,xs=[y0,y1,y2,y3,y4]:=by
    match xs,hxl2 with
    | [y0,y1,y2,y3,y4],_=>exact⟨y0,y1,y2,y3,y4,rfl⟩
  have cN:Tryz.prog.cellsOf 22=1:=by kernel_rfl
  have cE:Tryz.prog.cellsOf 23=1:=by kernel_rfl
  have cC:Tryz.prog.cellsOf 24=1:=by kernel_rfl
  have cB:Tryz.prog.cellsOf 4=1:=by kernel_rfl
  have g0:DataW.trod enc Tryz.prog W base sp held n 9 [c0]=some y0:=by simpa [Value.cells,cStr] using hg 0 _ rfl
  have g1:DataW.trod enc Tryz.prog W base sp held n 4 [c1]=some y1:=by simpa [Value.cells,cB] using hg 1 _ rfl
  have g2:DataW.trod enc Tryz.prog W base sp held n 22 [c2]=some y2:=by simpa [Value.cells,cN] using hg 2 _ rfl
  have g3:DataW.trod enc Tryz.prog W base sp held n 23 [c3]=some y3:=by simpa [Value.cells,cE] using hg 3 _ rfl
  have g4:DataW.trod enc Tryz.prog W base sp held n 24 [c4]=some y4:=by simpa [Value.cells,cC] using hg 4 _ rfl
  obtain⟨nm,e0,r0,_⟩:=DataW.trod_string Tryz.underlying9 g0;obtain⟨dir,e1,r1⟩:=DataW.trod_bool Tryz.underlying4 g1;obtain⟨na,NL,nc,e2,l2,m2,q2,z2⟩:=open_rows (α := Nd) (by decide) Tryz.underlying22 cNode (fun y cs=>∃ p c,cs=[.string y.name,.string y.label,.int .i64 y.w,.int .i64 y.h,.int .i64 y.c,.slice p y.ports.length c]/\PrtIn W p y.ports/\y.ports.length<=c/\c<=maxLen) (fun y cs h=>by obtain⟨p,c,h,-⟩:=h;rw[h];rfl) (fun y d=>(∀ m ∈ d.weights Tryz.prog 59,m<=reachN)->SmN y) (fun h=>open_node h) g2
  obtain⟨ea,EL,ec,e3,l3,m3,q3,z3⟩:=open_rows (α := Ed) (by decide) Tryz.underlying23 cEdge (fun y cs=>cs=[.int .i64 y.a,.int .i64 y.b,.int .i64 y.ap,.int .i64 y.bp,.string y.label,.int .i64 y.wt,.int .i64 y.len]) (fun y cs h=>by rw[h];rfl) (fun y d=>(∀ m ∈ d.weights Tryz.prog 61,m<=reachN)->y.label.size<=reachN) (fun h=>open_edge h) g3;obtain⟨ca,CL,cc,e4,l4,m4,q4,z4⟩:=open_rows (α := ByteArray × Int) (by decide) Tryz.underlying24 cClus (fun y cs=>cs=[.string y.1,.int .i64 y.2]) (fun y cs h=>by rw[h];rfl) (fun y d=>(∀ m ∈ d.weights Tryz.prog 63,m<=reachN)->y.1.size<=reachN) (fun h=>open_clus h) g4;simp only[List.cons.injEq,and_true] at e0 e1 e2 e3 e4;subst e0;subst e1;subst e2;subst e3;subst e4;subst r0;subst r1;have hd:=congrArg Prod.fst hx;dsimp only at hd;subst hd;obtain⟨fs,hus,hft⟩:=fs_graph
  rw[DataW.weights] at hz;simp only[hus,hft,List.map_cons,List.map_nil,DataW.weightsEach,DataW.weights,List.append_nil,List.nil_append,List.mem_append,List.mem_singleton] at hz
  have hn:NdIn W na NL:=fun k hk=>by
    obtain⟨g,o,xs,ha,-,⟨p,c,hxs,hp,-⟩,hc⟩:=q2 k hk;subst hxs;exact⟨g,o,p,c,ha,hc 0 (by simp),hc 1 (by simp),hc 2 (by simp),hc 3 (by simp),hc 4 (by simp),hc 5 (by simp),hp⟩
  have he:EdIn W ea EL:=fun k hk=>by
    obtain⟨g,o,xs,ha,-,hxs,hc⟩:=q3 k hk;subst hxs;exact⟨g,o,ha,hc 0 (by simp),hc 1 (by simp),hc 2 (by simp),hc 3 (by simp),hc 4 (by simp),hc 5 (by simp),hc 6 (by simp)⟩
  have hcl:ClIn W ca CL:=fun k hk=>by
    obtain⟨g,o,xs,ha,-,hxs,hc⟩:=q4 k hk;subst hxs;exact⟨g,o,ha,hc 0 (by simp),hc 1 (by simp)⟩
  have hncp:NdCp W na NL:=fun k hk g o p n c ha hc=>by
    obtain⟨g',o',xs,ha',-,⟨p',c',hxs,hp,hl1,hl2⟩,hc'⟩:=q2 k hk;subst hxs;rw[ha] at ha';cases ha';have h5:=hc' 5 (by simp);rw[hc] at h5;have e5:=Option.some.inj h5;dsimp only[List.getElem_cons_succ,List.getElem_cons_zero] at e5;cases e5;unfold maxLen at hl2;exact⟨hl1,by omega⟩
  refine⟨⟨nm,dir,NL,EL,CL⟩,na,ea,ca,nc,ec,cc,rfl,⟨na,nc,ea,ec,ca,cc,rfl,hn,he,hcl⟩,⟨na,nc,ea,ec,ca,cc,rfl,hncp,l4,by unfold maxLen at m4;omega⟩,?_,fun x hx=>?_,fun x hx=>?_,fun x hx=>?_⟩
  · have s1:=hz _ (.inl rfl);rw[<-size_len] at s1;exact s1
  · obtain⟨k,hk,rfl⟩:=List.getElem_of_mem hx;obtain⟨d,hz2,hd⟩:=z2 k hk;exact hz2 fun m hm=>hz m (.inr (.inl (hd m hm)))
  · obtain⟨k,hk,rfl⟩:=List.getElem_of_mem hx;obtain⟨d,hz2,hd⟩:=z3 k hk;exact hz2 fun m hm=>hz m (.inr (.inr (.inl (hd m hm))))
  obtain⟨k,hk,rfl⟩:=List.getElem_of_mem hx;obtain⟨d,hz2,hd⟩:=z4 k hk;exact hz2 fun m hm=>hz m (.inr (.inr (.inr (hd m hm))))
end
theorem few_small {g:Gr}(h:fewG g=true)(h0:g.name.size<=reachN)(h1:∀ x ∈ g.N,SmN x)(h2:∀ x ∈ g.E,x.label.size<=reachN)(h3:∀ x ∈ g.C,x.1.size<=reachN):GrSm g:=by
  unfold fewG at h;simp only[Bool.and_eq_true,decide_eq_true_eq,List.all_eq_true] at h;obtain⟨⟨⟨a,b⟩,c⟩,d⟩:=h;unfold reachN at h0 h2 h3;refine⟨by omega,by omega,by omega,by omega,fun x hx=>?_,fun x hx=>by have:=h3 x hx;omega,fun x hx=>by have:=h2 x hx;omega⟩;obtain⟨e1,e2,e3⟩:=h1 x hx;unfold reachN at e1 e2;refine⟨by omega,by omega,by have:=d x hx;omega,fun q hq=>?_⟩;have:=e3 q hq;unfold reachN at this;omega
end Go.Proofs.YtjaeedbjknejdaaGreatDoor.Ex

namespace Go.Proofs.YtjaeedbjknejdaaGreatDoor.Ex
open Go Go.RowKit Go.Sort Go.Lib Go.Shelf Fx Lx Tr At Pa Go.Proofs.YtjaeedbjknejdaaGreatDoor.Nm
def gA : Gr:=⟨⟨#[103]⟩,true,[⟨⟨#[97]⟩,⟨#[97]⟩,20000,10000,-1,[]⟩,⟨⟨#[98]⟩,⟨#[120]⟩,2000,10000,0,[]⟩],[⟨0,1,-1,-1,⟨#[]⟩,2,1⟩],[(⟨#[99]⟩,-1)]⟩
def oA : Op5:=⟨0,10000,20000,5000,8⟩
def bodyA : List Stm:=[.mk 1 ⟨#[98]⟩ [] [(⟨#[108,97,98,101,108]⟩,⟨#[120]⟩),(⟨#[119,105,100,116,104]⟩,⟨#[50]⟩)] []]
def tA : List Stm:=[.mk 1 ⟨#[97]⟩ [] [] [],.mk 5 ⟨#[99]⟩ [] [] bodyA,.mk 2 ⟨#[]⟩ [(⟨#[97]⟩,⟨#[]⟩),(⟨#[98]⟩,⟨#[]⟩)] [(⟨#[119,101,105,103,104,116]⟩,⟨#[50]⟩)] []]
theorem tree_A : treeT gA oA=.ok tA:=by kernel_rfl
theorem text_l : (decide (20 < (printT true ⟨#[103]⟩ tA).length) && decide ((printT true ⟨#[103]⟩ tA).length<=16384))=true:=by kernel_rfl
theorem text_A : ∃ s,textG gA oA=.ok s/\20 < s.length:=by
  have h:=text_l;simp only[Bool.and_eq_true,decide_eq_true_eq] at h;refine⟨printT true ⟨#[103]⟩ tA,?_,h.1⟩;unfold textG;rw[tree_A];show(if 16384 < (printT true ⟨#[103]⟩ tA).length then _ else _)=_;rw[if_neg (by omega)];rfl
def g0A : Gr:=⟨⟨#[]⟩,false,[],[],[]⟩
theorem tree_0 : treeT g0A oA=.error 1:=by kernel_rfl
theorem sm_A : GrSm gA:=by
  unfold GrSm;refine⟨by decide,by decide,by decide,by decide,fun x hx=>?_,fun x hx=>?_,fun x hx=>?_⟩
  · simp only[gA,List.mem_cons,List.not_mem_nil,or_false] at hx;rcases hx with rfl | rfl
    · exact⟨by decide,by decide,by decide,fun q hq=>by cases hq⟩
    exact⟨by decide,by decide,by decide,fun q hq=>by cases hq⟩
  · simp only[gA,List.mem_cons,List.not_mem_nil,or_false] at hx;subst hx;decide
  simp only[gA,List.mem_cons,List.not_mem_nil,or_false] at hx;subst hx;decide
theorem sm_0 : GrSm g0A:=by
  unfold GrSm;exact⟨by decide,by decide,by decide,by decide,fun x hx=>(by cases hx),fun x hx=>(by cases hx),fun x hx=>(by cases hx)⟩
theorem in_0 (w:World):GrIn w (.agg #[.string ⟨#[]⟩,.bool false,.slice none 0 0,.slice none 0 0,.slice none 0 0]) g0A/\GrCp w (.agg #[.string ⟨#[]⟩,.bool false,.slice none 0 0,.slice none 0 0,.slice none 0 0]) g0A :=
  ⟨⟨none,0,none,0,none,0,rfl,(fun k h=>absurd h (Nat.not_lt_zero _)),(fun k h=>absurd h (Nat.not_lt_zero _)),(fun k h=>absurd h (Nat.not_lt_zero _))⟩,⟨none,0,none,0,none,0,rfl,(fun k h=>absurd h (Nat.not_lt_zero _)),Nat.le_refl _,Nat.zero_le _⟩⟩
theorem in_A {w:World}{n1 n2 n3:Nat}(h1:w.heap[n1]? = some (.cells #[.string ⟨#[97]⟩,.string ⟨#[97]⟩,.int .i64 20000,.int .i64 10000,.int .i64 (-1),.slice none 0 0,.string ⟨#[98]⟩,.string ⟨#[120]⟩,.int .i64 2000,.int .i64 10000,.int .i64 0,.slice none 0 0] 59 (0,0)))(h2:w.heap[n2]? = some (.cells #[.int .i64 0,.int .i64 1,.int .i64 (-1),.int .i64 (-1),.string ⟨#[]⟩,.int .i64 2,.int .i64 1] 61 (0,0)))(h3:w.heap[n3]? = some (.cells #[.string ⟨#[99]⟩,.int .i64 (-1)] 63 (0,0))):GrIn w (.agg #[.string ⟨#[103]⟩,.bool true,.slice (some ⟨n1,0,none⟩) 2 2,.slice (some ⟨n2,0,none⟩) 1 1,.slice (some ⟨n3,0,none⟩) 1 1]) gA/\GrCp w (.agg #[.string ⟨#[103]⟩,.bool true,.slice (some ⟨n1,0,none⟩) 2 2,.slice (some ⟨n2,0,none⟩) 1 1,.slice (some ⟨n3,0,none⟩) 1 1]) gA:=by
  have c1:∀ j v,(#[.string ⟨#[97]⟩,.string ⟨#[97]⟩,.int .i64 20000,.int .i64 10000,.int .i64 (-1),.slice none 0 0,.string ⟨#[98]⟩,.string ⟨#[120]⟩,.int .i64 2000,.int .i64 10000,.int .i64 0,.slice none 0 0]:Array Value)[j]? = some v->w.cell? ⟨n1,j,none⟩=some v:=fun j v h=>by rw[Lib.cell_of_heap h1];exact h
  have c2:∀ j v,(#[.int .i64 0,.int .i64 1,.int .i64 (-1),.int .i64 (-1),.string ⟨#[]⟩,.int .i64 2,.int .i64 1]:Array Value)[j]? = some v->w.cell? ⟨n2,j,none⟩=some v:=fun j v h=>by rw[Lib.cell_of_heap h2];exact h
  have c3:∀ j v,(#[.string ⟨#[99]⟩,.int .i64 (-1)]:Array Value)[j]? = some v->w.cell? ⟨n3,j,none⟩=some v:=fun j v h=>by rw[Lib.cell_of_heap h3];exact h
  refine⟨⟨some ⟨n1,0,none⟩,2,some ⟨n2,0,none⟩,1,some ⟨n3,0,none⟩,1,rfl,fun k hk=>?_,fun k hk=>?_,fun k hk=>?_⟩,⟨some ⟨n1,0,none⟩,2,some ⟨n2,0,none⟩,1,some ⟨n3,0,none⟩,1,rfl,fun k hk g o p n c ha hc=>?_,Nat.le_refl _,by decide⟩⟩
  · have hk:k < 2:=hk
    match k,hk with
    | 0,_=>exact⟨n1,0,none,0,rfl,c1 0 _ rfl,c1 1 _ rfl,c1 2 _ rfl,c1 3 _ rfl,c1 4 _ rfl,c1 5 _ rfl,fun j hj=>absurd hj (Nat.not_lt_zero _)⟩
    | 1,_=>exact⟨n1,0,none,0,rfl,c1 6 _ rfl,c1 7 _ rfl,c1 8 _ rfl,c1 9 _ rfl,c1 10 _ rfl,c1 11 _ rfl,fun j hj=>absurd hj (Nat.not_lt_zero _)⟩
  · have hk:k < 1:=hk
    match k,hk with
    | 0,_=>exact⟨n2,0,rfl,c2 0 _ rfl,c2 1 _ rfl,c2 2 _ rfl,c2 3 _ rfl,c2 4 _ rfl,c2 5 _ rfl,c2 6 _ rfl⟩
  · have hk:k < 1:=hk
    match k,hk with
    | 0,_=>exact⟨n3,0,rfl,c3 0 _ rfl,c3 1 _ rfl⟩
  · have hk:k < 2:=hk;injection ha with ha;injection ha with e1 e2;subst e1;subst e2
    match k,hk with
    | 0,_ =>
      have:=c1 5 _ rfl;have hc:w.cell? ⟨n1,5,none⟩=some (.slice p n c):=hc;rw[this] at hc;injection hc with hc;injection hc with e3 e4 e5;subst e4;subst e5;exact⟨Nat.le_refl _,Nat.zero_le _⟩
    | 1,_ =>
      have:=c1 11 _ rfl;have hc:w.cell? ⟨n1,11,none⟩=some (.slice p n c):=hc;rw[this] at hc;injection hc with hc;injection hc with e3 e4 e5;subst e4;subst e5;exact⟨Nat.le_refl _,Nat.zero_le _⟩
structure TaC (w:World)(g o g2 o2 g3 o3 bc2 ac2 ac3:Nat)(a3:Option Addr):Prop where
  k:w.cell? ⟨g,o+5,none⟩=some (.int .i64 5)
  b:w.cell? ⟨g,o+5+4,none⟩=some (.slice (some ⟨g2,o2,none⟩) 1 bc2)
  a:w.cell? ⟨g2,o2+3,none⟩=some (.slice (some ⟨g3,o3,none⟩) 2 ac2)
  q0:w.cell? ⟨g3,o3+2,none⟩=some (.string ⟨#[119,105,100,116,104]⟩)
  q1:w.cell? ⟨g3,o3+2+1,none⟩=some (.string ⟨#[50]⟩)
  e:w.cell? ⟨g,o+10+3,none⟩=some (.slice a3 1 ac3)
theorem ta_cells {n:Nat}{w:World}{b:Option Addr}(h:StmsAt n w b tA):∃ g o g2 o2 g3 o3 bc2 ac2 ac3 a3,b=some ⟨g,o,none⟩/\TaC w g o g2 o2 g3 o3 bc2 ac2 ac3 a3:=by
  obtain⟨g,o,rfl,-,h1⟩:=StmsAt.at tA h 1 (by decide);obtain⟨g',o',e,-,h2⟩:=StmsAt.at tA h 2 (by decide);injection e with e;injection e with e1 e2;subst e1;subst e2;have h1:StmAt n w g (o+1 * 5) (.mk 5 ⟨#[99]⟩ [] [] bodyA):=h1;have h2:StmAt n w g (o+2 * 5) (.mk 2 ⟨#[]⟩ [(⟨#[97]⟩,⟨#[]⟩),(⟨#[98]⟩,⟨#[]⟩)] [(⟨#[119,101,105,103,104,116]⟩,⟨#[50]⟩)] []):=h2;rw[StmAt] at h1 h2;obtain⟨r,rc,a,ac,b1,bc,c0,c1,c2,c3,c4,-,-,hb,-⟩:=h1;obtain⟨r',rc',a',ac',b1',bc',d0,d1,d2,d3,d4,-⟩:=h2;obtain⟨g2,o2,rfl,-,h3⟩:=StmsAt.at bodyA hb 0 (by decide);have h3:StmAt n w g2 (o2+0 * 5) (.mk 1 ⟨#[98]⟩ [] [(⟨#[108,97,98,101,108]⟩,⟨#[120]⟩),(⟨#[119,105,100,116,104]⟩,⟨#[50]⟩)] []):=h3;rw[StmAt] at h3;obtain⟨r3,rc3,a3,ac3,b3,bc3,-,-,-,e3,-,-,ha3,-⟩:=h3
  obtain⟨g3,o3,rfl,-,q0,q1⟩:=ha3 1 (by decide);exact⟨g,o,g2,o2,g3,o3,bc,ac3,ac',a',rfl,⟨c0,c4,e3,q0,q1,d3⟩⟩
theorem TaC.ext {w w':World}{g o g2 o2 g3 o3 bc2 ac2 ac3:Nat}{a3:Option Addr}(h:TaC w g o g2 o2 g3 o3 bc2 ac2 ac3 a3)(x:Ext w w'):TaC w' g o g2 o2 g3 o3 bc2 ac2 ac3 a3 :=
  ⟨x.cell h.k,x.cell h.b,x.cell h.a,x.cell h.q0,x.cell h.q1,x.cell h.e⟩
theorem below3 {w w':World}{n:Nat}{u0 u1 u2:Value}(x:Ext w w')(hn:n=w.heap.size:=by omega):Below n w (((w'.setCell ⟨n,0,none⟩ u0).setCell ⟨n,1,none⟩ u1).setCell ⟨n,2,none⟩ u2):=by
  subst hn;exact ext3t x (Nat.le_refl _) _ _ _
theorem awake_any (w:World)(he:Env w):Calls Tryz.prog 9 #[] w fun e w'=>e=.returned (.bool true)/\Ext w w':=by
  have HE:=Lib.hid he;clear he;go_enter Tryz.func9,Tryz.ntmps9
  go_upto_region 2 with fail
  obtain⟨n1,hn1⟩:∃ n,n=w.heap.size:=⟨_,rfl⟩;obtain⟨n2,hn2⟩:∃ n,n=w.heap.size+1:=⟨_,rfl⟩;obtain⟨n3,hn3⟩:∃ n,n=w.heap.size+1+1:=⟨_,rfl⟩;obtain⟨gb,hgb⟩:∃ n,n=w.heap.size+1+1+1:=⟨_,rfl⟩;obtain⟨w1,hw1⟩:∃ w',w'=((((w.alloc (.cells #[.string ⟨#[97]⟩,.string ⟨#[97]⟩,.int .i64 20000,.int .i64 10000,.int .i64 (-1),.slice none 0 0,.string ⟨#[98]⟩,.string ⟨#[120]⟩,.int .i64 2000,.int .i64 10000,.int .i64 0,.slice none 0 0] 59)).alloc (.cells #[.int .i64 0,.int .i64 1,.int .i64 (-1),.int .i64 (-1),.string ⟨#[]⟩,.int .i64 2,.int .i64 1] 61)).alloc (.cells #[.string ⟨#[99]⟩,.int .i64 (-1)] 63)).alloc (.cells #[.string ⟨#[103]⟩,.bool true,.slice (some ⟨w.heap.size,0,none⟩) 2 2,.slice (some ⟨w.heap.size+1,0,none⟩) 1 1,.slice (some ⟨w.heap.size+1+1,0,none⟩) 1 1] 26)):=⟨_,rfl⟩
  have B1:Hid (w1.heap[n1]? = some (.cells #[.string ⟨#[97]⟩,.string ⟨#[97]⟩,.int .i64 20000,.int .i64 10000,.int .i64 (-1),.slice none 0 0,.string ⟨#[98]⟩,.string ⟨#[120]⟩,.int .i64 2000,.int .i64 10000,.int .i64 0,.slice none 0 0] 59 (0,0))):=Lib.hid (by rw[hw1,hn1];exact At.heap_ext (heap_alloc_new w _) ((((Ext.refl _).alloc _).alloc _).alloc _));have B2:Hid (w1.heap[n2]? = some (.cells #[.int .i64 0,.int .i64 1,.int .i64 (-1),.int .i64 (-1),.string ⟨#[]⟩,.int .i64 2,.int .i64 1] 61 (0,0))):=Lib.hid (by rw[hw1,hn2];exact At.heap_ext (new2 w _ _ (by simp)) (((Ext.refl _).alloc _).alloc _));have B3:Hid (w1.heap[n3]? = some (.cells #[.string ⟨#[99]⟩,.int .i64 (-1)] 63 (0,0))):=Lib.hid (by rw[hw1,hn3];exact two_newT ((Ext.refl _).alloc _))
  have BG:Hid (w1.heap[gb]? = some (.cells #[.string ⟨#[103]⟩,.bool true,.slice (some ⟨n1,0,none⟩) 2 2,.slice (some ⟨n2,0,none⟩) 1 1,.slice (some ⟨n3,0,none⟩) 1 1] 26 (0,0))):=Lib.hid (by rw[hw1,hgb,hn1,hn2,hn3];have h:=heap_alloc_new (((w.alloc (.cells #[.string ⟨#[97]⟩,.string ⟨#[97]⟩,.int .i64 20000,.int .i64 10000,.int .i64 (-1),.slice none 0 0,.string ⟨#[98]⟩,.string ⟨#[120]⟩,.int .i64 2000,.int .i64 10000,.int .i64 0,.slice none 0 0] 59)).alloc (.cells #[.int .i64 0,.int .i64 1,.int .i64 (-1),.int .i64 (-1),.string ⟨#[]⟩,.int .i64 2,.int .i64 1] 61)).alloc (.cells #[.string ⟨#[99]⟩,.int .i64 (-1)] 63)) (.cells #[.string ⟨#[103]⟩,.bool true,.slice (some ⟨w.heap.size,0,none⟩) 2 2,.slice (some ⟨w.heap.size+1,0,none⟩) 1 1,.slice (some ⟨w.heap.size+1+1,0,none⟩) 1 1] 26);simp only[World.size_alloc] at h;exact h)
  have X1:Hid (Ext w w1):=Lib.hid (by rw[hw1];exact(((((Ext.refl _).alloc _).alloc _).alloc _).alloc _));rw[<-hw1,<- hgb,<- hn3,<- hn2,<- hn1];have HIN:=Lib.hid (in_A B1.out B2.out B3.out)
  have HT:Hid (∀ w5,Ext w1 w5->Calls Tryz.prog 10 #[.agg #[.string ⟨#[103]⟩,.bool true,.slice (some ⟨n1,0,none⟩) 2 2,.slice (some ⟨n2,0,none⟩) 1 1,.slice (some ⟨n3,0,none⟩) 1 1],.agg #[.int .i64 0,.int .i64 10000,.int .i64 20000,.int .i64 5000,.int .i64 8]] w5 fun e w'=>(∃ b c,e=.returned (.tuple #[.agg #[.string ⟨#[103]⟩,.bool true,.slice b 3 c],.int .i64 0])/\StmsP (w5.heap.size <= ·) w' b tA)/\Ext w5 w'):=Lib.hid (fun w5 x=>by
    have h:=treeP_all gA (some ⟨n1,0,none⟩) (some ⟨n2,0,none⟩) (some ⟨n3,0,none⟩) 2 1 1 oA w5 (HIN.out.1.ext x) (HIN.out.2.ext HIN.out.1 x) sm_A (HE.out.ext (X1.out.trans x));rw[tree_A] at h
    exact h.mono fun e w' hh=>by obtain⟨⟨b,c,e1,e2,-⟩,x⟩:=hh;exact⟨⟨b,c,e1,e2⟩,x⟩)
  obtain⟨S,hS,hSl⟩:=text_A
  have HX:Hid (∀ w5,Ext w1 w5->Calls Tryz.prog 13 #[.agg #[.string ⟨#[103]⟩,.bool true,.slice (some ⟨n1,0,none⟩) 2 2,.slice (some ⟨n2,0,none⟩) 1 1,.slice (some ⟨n3,0,none⟩) 1 1],.agg #[.int .i64 0,.int .i64 10000,.int .i64 20000,.int .i64 5000,.int .i64 8]] w5 fun e w'=>e=.returned (.tuple #[.string ⟨S.toArray⟩,.int .i64 0])/\Ext w5 w'):=Lib.hid (fun w5 x=>by
    have h:=textP_all gA (some ⟨n1,0,none⟩) (some ⟨n2,0,none⟩) (some ⟨n3,0,none⟩) 2 1 1 oA w5 (HIN.out.1.ext x) (HIN.out.2.ext HIN.out.1 x) sm_A (HE.out.ext (X1.out.trans x));rw[hS] at h
    exact h)
  obtain⟨SB,hSB⟩:∃ s:ByteArray,s=⟨S.toArray⟩:=⟨_,rfl⟩
  have hSz:(20:Int) < SB.size:=by
    have:SB.size=S.length:=by rw[hSB];exact List.size_toArray ..
    rw[this];omega
  rw[<-hSB] at HX
  have H0:Hid (∀ w5,Ext w w5->Calls Tryz.prog 10 #[.agg #[.string ⟨#[]⟩,.bool false,.slice none 0 0,.slice none 0 0,.slice none 0 0],.agg #[.int .i64 0,.int .i64 10000,.int .i64 20000,.int .i64 5000,.int .i64 8]] w5 fun e w'=>e=.returned (.tuple #[.agg #[.string ⟨#[]⟩,.bool false,.slice none 0 0],.int .i64 1])/\Ext w5 w'):=Lib.hid (fun w5 x=>by
    have h:=treeP_all g0A none none none 0 0 0 oA w5 (in_0 w5).1 (in_0 w5).2 sm_0 (HE.out.ext x);rw[tree_0] at h
    exact h)
  have HNO:Hid (∀ w5,Calls Tryz.prog 20 #[] w5 fun e w'=>e=.returned (.agg #[.int .i64 0,.int .i64 10000,.int .i64 20000,.int .i64 5000,.int .i64 8])/\Ext w5 w'):=Lib.hid (fun w5=>normal_any w5);clear hw1 hS hSl hSB hn1 hn2 hn3 hgb HIN B1 B2 B3;obtain⟨g0,g1,g2,g3,g4⟩:=cells5g BG.out
  go_cut [2,3] from 4 to 104 (fun s2 s3 wx=>∃ tb b c,s2=.pointer (some ⟨tb,0,none⟩)/\s3=.int .i64 0/\Hid (wx.heap[tb]? = some (.cells #[.string ⟨#[103]⟩,.bool true,.slice b 3 c] 33 (0,0)))/\Hid (StmsAt wx.heap.size wx b tA)/\Hid (Ext w1 wx))
  case first =>
    go_wp2_with fail;refine wp_region_K (S:=fun w'=>w'.cell? ⟨gb,0,none⟩=some (.string ⟨#[103]⟩)/\w'.cell? ⟨gb,1,none⟩=some (.bool true)/\w'.cell? ⟨gb,2,none⟩=some (.slice (some ⟨n1,0,none⟩) 2 2)/\w'.cell? ⟨gb,3,none⟩=some (.slice (some ⟨n2,0,none⟩) 1 1)/\w'.cell? ⟨gb,4,none⟩=some (.slice (some ⟨n3,0,none⟩) 1 1)) (n:=8) (by kernel_rfl) (by exact⟨Ext.cell ((Ext.refl w1).drew) g0,Ext.cell ((Ext.refl w1).drew) g1,Ext.cell ((Ext.refl w1).drew) g2,Ext.cell ((Ext.refl w1).drew) g3,Ext.cell ((Ext.refl w1).drew) g4⟩) (fun hHeld=>?_);refine kT 8 0 ?_ rfl (by kernel_rfl) (fun _ _ _ h=>h) (Or.inl ⟨by rfl,?_⟩) hHeld ?_;rotate_left
    · (intro w' hSw;(try dsimp only at hSw);go_simp <;> with_reducible rfl)
    (try simp only[Act.put,q1,q2,q3])
    refine wpAnyK_two (i:=1) (j:=6) (oi:=_) (oj:=_) rfl rfl (by kernel_rfl) (fun KK hKK=>?_) (fun KK hKK=>?_)
    · go_simp
      (go_at_call 20;refine Calls.mono (by exact HNO.out _) ?_;rintro e w6 ⟨rfl,x6⟩)
      have ZN:Hid (Ext w1 w6):=Lib.hid (((Ext.refl w1).drew).trans x6);clear x6;refine hKK.out _ _ (fun _=>?_) (fun hH=>?_)
      · (exact⟨Ext.cell (ZN.out) g0,Ext.cell (ZN.out) g1,Ext.cell (ZN.out) g2,Ext.cell (ZN.out) g3,Ext.cell (ZN.out) g4⟩)
      have hHeld2:=hH;clear hKK KK hHeld hH;have hHeld:=hHeld2 (by decide);clear hHeld2
      (try dsimp only at hHeld)
      (try simp only[Act.put,q1,q2,q3])
      refine wpAnyK_two (i:=2) (j:=6) (oi:=_) (oj:=_) rfl rfl (by kernel_rfl) (fun KK hKK=>?_) (fun KK hKK=>?_)
      · go_simp
        (go_at_call 10;refine Calls.mono (by exact HT.out _ (ZN.out)) ?_;rintro e w7 ⟨⟨b,c,rfl,hst⟩,x7⟩)
        have HST:=Lib.hid hst;have X7:=Lib.hid x7;have ZT:Hid (Ext w1 w7):=Lib.hid ((ZN.out).trans x7);clear hst x7;refine hKK.out _ _ (fun _=>?_) (fun hH=>?_)
        · (exact⟨Ext.cell (ZT.out) g0,Ext.cell (ZT.out) g1,Ext.cell (ZT.out) g2,Ext.cell (ZT.out) g3,Ext.cell (ZT.out) g4⟩)
        have hHeld2:=hH;clear hKK KK hHeld hH;have hHeld:=hHeld2 (by decide);clear hHeld2
        (try dsimp only at hHeld)
        (try simp only[Act.put,q1,q2,q3])
        refine kT 8 3 ?_ rfl (by kernel_rfl) (fun _ _ _ h=>h) (Or.inl ⟨by rfl,?_⟩) hHeld ?_;rotate_left
        · (intro w' hSw;(try dsimp only at hSw);go_simp <;> with_reducible rfl)
        (try simp only[Act.put,q1,q2,q3])
        refine kT 8 4 ?_ rfl (by kernel_rfl) (fun _ _ _ h=>h) (Or.inl ⟨by rfl,?_⟩) hHeld ?_;rotate_left
        · (intro w' hSw;(try dsimp only at hSw);go_simp <;> with_reducible rfl)
        (try simp only[Act.put,q1,q2,q3])
        refine kT 8 5 ?_ rfl (by kernel_rfl) (fun _ _ _ h=>h) (Or.inl ⟨by rfl,?_⟩) hHeld ?_;rotate_left
        · (intro w' hSw;(try dsimp only at hSw);go_simp <;> with_reducible rfl)
        (try simp only[Act.put,q1,q2,q3])
        refine wpAnyK_step (o:=_) (i:=6) rfl (by kernel_rfl) (fun KK hKK=>?_);go_simp;obtain⟨tb,htb⟩:∃ n,n=(w7).heap.size:=⟨_,rfl⟩;obtain⟨wt,hwt⟩:∃ w',w'=((w7).alloc (.cells #[.string ⟨#[]⟩,.bool false,.slice none 0 0] 33)):=⟨_,rfl⟩;have HTE:Hid (tb=(w7).heap.size):=Lib.hid htb;have TX:Hid (wt.heap[tb]? = some (.cells #[.string ⟨#[]⟩,.bool false,.slice none 0 0] 33 (0,0))):=Lib.hid (by rw[hwt,htb];exact heap_alloc_new _ _);have XT:Hid (Ext (w7) wt):=Lib.hid (by rw[hwt];exact((Ext.refl _).alloc _));have HTB:Hid (tb+1=wt.heap.size):=Lib.hid (by rw[hwt,htb];simp);have ZA:Hid (Ext w1 wt):=Lib.hid ((ZT.out).trans XT.out);have HTW:Hid (w1.heap.size<=tb):=Lib.hid (by have h1:=(ZT.out).size;omega);have HST2:Hid (StmsAt tb w7 b tA):=Lib.hid (by rw[htb];exact stmsV_at HST.out);rw[<-hwt,<- htb];clear hwt htb
        refine hKK.out _ _ (fun _=>?_) (fun hH=>?_)
        · (exact⟨Ext.cell (ZA.out) g0,Ext.cell (ZA.out) g1,Ext.cell (ZA.out) g2,Ext.cell (ZA.out) g3,Ext.cell (ZA.out) g4⟩)
        have hHeld2:=hH;clear hKK KK hHeld hH;have hHeld:=hHeld2 (by decide);clear hHeld2
        (try dsimp only at hHeld)
        (try simp only[Act.put,q1,q2,q3])
        have q0:=(cells3t TX.out).1;have q1:=(cells3t TX.out).2.1;have q2:=(cells3t TX.out).2.2.1;have qf:=(cells3t TX.out).2.2.2;refine wpAnyK_step (o:=_) (i:=7) rfl (by kernel_rfl) (fun KK hKK=>?_);go_simp;refine hKK.out _ _ (fun _=>?_) (fun hH=>?_)
        · (exact⟨Ext.cell (ext3t (ZA.out) HTW.out _ _ _) g0,Ext.cell (ext3t (ZA.out) HTW.out _ _ _) g1,Ext.cell (ext3t (ZA.out) HTW.out _ _ _) g2,Ext.cell (ext3t (ZA.out) HTW.out _ _ _) g3,Ext.cell (ext3t (ZA.out) HTW.out _ _ _) g4⟩)
        have hHeld2:=hH;clear hKK KK hHeld hH;have hHeld:=hHeld2 (by decide);clear hHeld2
        (try dsimp only at hHeld)
        (try simp only[Act.put,q1,q2,q3])
        refine wpAnyK_step (o:=_) (i:=8) rfl (by kernel_rfl) (fun KK hKK=>?_);go_simp;refine hKK.out _ _ (fun h=>absurd rfl h) (fun _=>?_);clear hKK KK
        (try simp only[Act.put,q1,q2,q3])
        refine wpAnyK_done (by kernel_rfl) ?_ _;go_wp2_with fail
        go_meet
        exact⟨tb,b,c,rfl,rfl,Lib.hid (set3t (TX.out) _ _ _),Lib.hid (StmsAt.mono (by rw[size_setC,size_setC,size_setC];have:=HTB.out;omega) tA (StmsAt.below (below3 XT.out HTE.out) tA HST2.out)),Lib.hid (ext3t (ZA.out) HTW.out _ _ _)⟩
      go_simp;obtain⟨tb,htb⟩:∃ n,n=(w6).heap.size:=⟨_,rfl⟩;obtain⟨wt,hwt⟩:∃ w',w'=((w6).alloc (.cells #[.string ⟨#[]⟩,.bool false,.slice none 0 0] 33)):=⟨_,rfl⟩;have HTE:Hid (tb=(w6).heap.size):=Lib.hid htb;have TX:Hid (wt.heap[tb]? = some (.cells #[.string ⟨#[]⟩,.bool false,.slice none 0 0] 33 (0,0))):=Lib.hid (by rw[hwt,htb];exact heap_alloc_new _ _);have XT:Hid (Ext (w6) wt):=Lib.hid (by rw[hwt];exact((Ext.refl _).alloc _));have HTB:Hid (tb+1=wt.heap.size):=Lib.hid (by rw[hwt,htb];simp);have ZA:Hid (Ext w1 wt):=Lib.hid ((ZN.out).trans XT.out);have HTW:Hid (w1.heap.size<=tb):=Lib.hid (by have h1:=(ZN.out).size;omega);rw[<-hwt,<- htb];clear hwt htb;refine hKK.out _ _ (fun _=>?_) (fun hH=>?_)
      · (exact⟨Ext.cell (ZA.out) g0,Ext.cell (ZA.out) g1,Ext.cell (ZA.out) g2,Ext.cell (ZA.out) g3,Ext.cell (ZA.out) g4⟩)
      have hHeld2:=hH;clear hKK KK hHeld hH;have hHeld:=hHeld2 (by decide);clear hHeld2
      (try dsimp only at hHeld)
      (try simp only[Act.put,q1,q2,q3])
      refine wpAnyK_step (o:=_) (i:=2) rfl (by kernel_rfl) (fun KK hKK=>?_);go_simp
      (go_at_call 10;refine Calls.mono (by exact HT.out _ (ZA.out)) ?_;rintro e w7 ⟨⟨b,c,rfl,hst⟩,x7⟩)
      have HST:=Lib.hid hst;have X7:=Lib.hid x7;have ZT:Hid (Ext w1 w7):=Lib.hid ((ZA.out).trans x7);clear hst x7;refine hKK.out _ _ (fun _=>?_) (fun hH=>?_)
      · (exact⟨Ext.cell (ZT.out) g0,Ext.cell (ZT.out) g1,Ext.cell (ZT.out) g2,Ext.cell (ZT.out) g3,Ext.cell (ZT.out) g4⟩)
      have hHeld2:=hH;clear hKK KK hHeld hH;have hHeld:=hHeld2 (by decide);clear hHeld2
      (try dsimp only at hHeld)
      (try simp only[Act.put,q1,q2,q3])
      refine kT 8 3 ?_ rfl (by kernel_rfl) (fun _ _ _ h=>h) (Or.inl ⟨by rfl,?_⟩) hHeld ?_;rotate_left
      · (intro w' hSw;(try dsimp only at hSw);go_simp <;> with_reducible rfl)
      (try simp only[Act.put,q1,q2,q3])
      refine kT 8 4 ?_ rfl (by kernel_rfl) (fun _ _ _ h=>h) (Or.inl ⟨by rfl,?_⟩) hHeld ?_;rotate_left
      · (intro w' hSw;(try dsimp only at hSw);go_simp <;> with_reducible rfl)
      (try simp only[Act.put,q1,q2,q3])
      refine kT 8 5 ?_ rfl (by kernel_rfl) (fun _ _ _ h=>h) (Or.inl ⟨by rfl,?_⟩) hHeld ?_;rotate_left
      · (intro w' hSw;(try dsimp only at hSw);go_simp <;> with_reducible rfl)
      (try simp only[Act.put,q1,q2,q3])
      have q0:=(cells3t (At.heap_ext TX.out X7.out)).1;have q1:=(cells3t (At.heap_ext TX.out X7.out)).2.1;have q2:=(cells3t (At.heap_ext TX.out X7.out)).2.2.1;have qf:=(cells3t (At.heap_ext TX.out X7.out)).2.2.2;refine wpAnyK_step (o:=_) (i:=7) rfl (by kernel_rfl) (fun KK hKK=>?_);go_simp;refine hKK.out _ _ (fun _=>?_) (fun hH=>?_)
      · (exact⟨Ext.cell (ext3t (ZT.out) HTW.out _ _ _) g0,Ext.cell (ext3t (ZT.out) HTW.out _ _ _) g1,Ext.cell (ext3t (ZT.out) HTW.out _ _ _) g2,Ext.cell (ext3t (ZT.out) HTW.out _ _ _) g3,Ext.cell (ext3t (ZT.out) HTW.out _ _ _) g4⟩)
      have hHeld2:=hH;clear hKK KK hHeld hH;have hHeld:=hHeld2 (by decide);clear hHeld2
      (try dsimp only at hHeld)
      (try simp only[Act.put,q1,q2,q3])
      refine wpAnyK_step (o:=_) (i:=8) rfl (by kernel_rfl) (fun KK hKK=>?_);go_simp;refine hKK.out _ _ (fun h=>absurd rfl h) (fun _=>?_);clear hKK KK
      (try simp only[Act.put,q1,q2,q3])
      refine wpAnyK_done (by kernel_rfl) ?_ _;go_wp2_with fail
      go_meet
      exact⟨tb,b,c,rfl,rfl,Lib.hid (set3t ((At.heap_ext TX.out X7.out)) _ _ _),Lib.hid (stmsV_at (stmsP_turn3 HST.out (Ext.refl _) (Array.getElem?_eq_some_iff.1 TX.out).1)),Lib.hid (ext3t (ZT.out) HTW.out _ _ _)⟩
    go_simp;obtain⟨tb,htb⟩:∃ n,n=(w1).heap.size:=⟨_,rfl⟩;obtain⟨wt,hwt⟩:∃ w',w'=((w1).alloc (.cells #[.string ⟨#[]⟩,.bool false,.slice none 0 0] 33)).drew:=⟨_,rfl⟩;have HTE:Hid (tb=(w1).heap.size):=Lib.hid htb;have TX:Hid (wt.heap[tb]? = some (.cells #[.string ⟨#[]⟩,.bool false,.slice none 0 0] 33 (0,0))):=Lib.hid (by rw[hwt,htb];exact heap_alloc_new _ _);have XT:Hid (Ext (w1) wt):=Lib.hid (by rw[hwt];exact((Ext.refl _).alloc _).drew);have HTB:Hid (tb+1=wt.heap.size):=Lib.hid (by rw[hwt,htb];simp);have ZA:Hid (Ext w1 wt):=Lib.hid ((Ext.refl w1).trans XT.out);have HTW:Hid (w1.heap.size<=tb):=Lib.hid (by have h1:=(Ext.refl w1).size;omega);rw[<-hwt,<- htb];clear hwt htb;refine hKK.out _ _ (fun _=>?_) (fun hH=>?_)
    · (exact⟨Ext.cell (ZA.out) g0,Ext.cell (ZA.out) g1,Ext.cell (ZA.out) g2,Ext.cell (ZA.out) g3,Ext.cell (ZA.out) g4⟩)
    have hHeld2:=hH;clear hKK KK hHeld hH;have hHeld:=hHeld2 (by decide);clear hHeld2
    (try dsimp only at hHeld)
    (try simp only[Act.put,q1,q2,q3])
    refine wpAnyK_step (o:=_) (i:=1) rfl (by kernel_rfl) (fun KK hKK=>?_);go_simp
    (go_at_call 20;refine Calls.mono (by exact HNO.out _) ?_;rintro e w6 ⟨rfl,x6⟩)
    have ZN:Hid (Ext w1 w6):=Lib.hid ((ZA.out).trans x6);have XN:Hid (Ext wt w6):=Lib.hid x6;clear x6;refine hKK.out _ _ (fun _=>?_) (fun hH=>?_)
    · (exact⟨Ext.cell (ZN.out) g0,Ext.cell (ZN.out) g1,Ext.cell (ZN.out) g2,Ext.cell (ZN.out) g3,Ext.cell (ZN.out) g4⟩)
    have hHeld2:=hH;clear hKK KK hHeld hH;have hHeld:=hHeld2 (by decide);clear hHeld2
    (try dsimp only at hHeld)
    (try simp only[Act.put,q1,q2,q3])
    refine wpAnyK_step (o:=_) (i:=2) rfl (by kernel_rfl) (fun KK hKK=>?_);go_simp
    (go_at_call 10;refine Calls.mono (by exact HT.out _ (ZN.out)) ?_;rintro e w7 ⟨⟨b,c,rfl,hst⟩,x7⟩)
    have HST:=Lib.hid hst;have X7:=Lib.hid x7;have ZT:Hid (Ext w1 w7):=Lib.hid ((ZN.out).trans x7);clear hst x7;refine hKK.out _ _ (fun _=>?_) (fun hH=>?_)
    · (exact⟨Ext.cell (ZT.out) g0,Ext.cell (ZT.out) g1,Ext.cell (ZT.out) g2,Ext.cell (ZT.out) g3,Ext.cell (ZT.out) g4⟩)
    have hHeld2:=hH;clear hKK KK hHeld hH;have hHeld:=hHeld2 (by decide);clear hHeld2
    (try dsimp only at hHeld)
    (try simp only[Act.put,q1,q2,q3])
    refine kT 8 3 ?_ rfl (by kernel_rfl) (fun _ _ _ h=>h) (Or.inl ⟨by rfl,?_⟩) hHeld ?_;rotate_left
    · (intro w' hSw;(try dsimp only at hSw);go_simp <;> with_reducible rfl)
    (try simp only[Act.put,q1,q2,q3])
    refine kT 8 4 ?_ rfl (by kernel_rfl) (fun _ _ _ h=>h) (Or.inl ⟨by rfl,?_⟩) hHeld ?_;rotate_left
    · (intro w' hSw;(try dsimp only at hSw);go_simp <;> with_reducible rfl)
    (try simp only[Act.put,q1,q2,q3])
    refine kT 8 5 ?_ rfl (by kernel_rfl) (fun _ _ _ h=>h) (Or.inl ⟨by rfl,?_⟩) hHeld ?_;rotate_left
    · (intro w' hSw;(try dsimp only at hSw);go_simp <;> with_reducible rfl)
    (try simp only[Act.put,q1,q2,q3])
    have q0:=(cells3t (At.heap_ext TX.out (XN.out.trans X7.out))).1;have q1:=(cells3t (At.heap_ext TX.out (XN.out.trans X7.out))).2.1;have q2:=(cells3t (At.heap_ext TX.out (XN.out.trans X7.out))).2.2.1;have qf:=(cells3t (At.heap_ext TX.out (XN.out.trans X7.out))).2.2.2;refine wpAnyK_step (o:=_) (i:=7) rfl (by kernel_rfl) (fun KK hKK=>?_);go_simp;refine hKK.out _ _ (fun _=>?_) (fun hH=>?_)
    · (exact⟨Ext.cell (ext3t (ZT.out) HTW.out _ _ _) g0,Ext.cell (ext3t (ZT.out) HTW.out _ _ _) g1,Ext.cell (ext3t (ZT.out) HTW.out _ _ _) g2,Ext.cell (ext3t (ZT.out) HTW.out _ _ _) g3,Ext.cell (ext3t (ZT.out) HTW.out _ _ _) g4⟩)
    have hHeld2:=hH;clear hKK KK hHeld hH;have hHeld:=hHeld2 (by decide);clear hHeld2
    (try dsimp only at hHeld)
    (try simp only[Act.put,q1,q2,q3])
    refine wpAnyK_step (o:=_) (i:=8) rfl (by kernel_rfl) (fun KK hKK=>?_);go_simp;refine hKK.out _ _ (fun h=>absurd rfl h) (fun _=>?_);clear hKK KK
    (try simp only[Act.put,q1,q2,q3])
    refine wpAnyK_done (by kernel_rfl) ?_ _;go_wp2_with fail
    go_meet
    exact⟨tb,b,c,rfl,rfl,Lib.hid (set3t ((At.heap_ext TX.out (XN.out.trans X7.out))) _ _ _),Lib.hid (stmsV_at (stmsP_turn3 HST.out (Ext.refl _) (Nat.lt_of_lt_of_le (Array.getElem?_eq_some_iff.1 TX.out).1 XN.out.size))),Lib.hid (ext3t (ZT.out) HTW.out _ _ _)⟩
  obtain⟨tb,b,c,rfl,rfl,HT1,HST,ZC⟩:=hcut;obtain⟨g,o,gg2,o2,gg3,o3,bc2,ac2,ac3,a3,rfl,hta⟩:=ta_cells HST.out;have HTA:=Lib.hid hta;clear hta g0 g1 g2 g3 g4;obtain⟨t0,t1,t2,-⟩:=cells3t HT1.out;obtain⟨k0,k1,k2,k3,k4,k5⟩:=HTA.out
  go_upto_region 6 with(first
    | (go_at_call 20;refine Calls.mono (by exact HNO.out _) ?_;rintro e w6 ⟨rfl,x6⟩;have X6:=Lib.hid x6;clear x6)
    | (go_at_call 10;refine Calls.mono (by exact H0.out _ ((X1.out.trans ZC.out).trans X6.out)) ?_;rintro e w7 ⟨rfl,x7⟩;have X7:Hid (Ext wc w7):=Lib.hid (X6.out.trans x7);clear x7))
  obtain⟨wd,hwd⟩:∃ w',w'=w7.alloc (.cells #[.string ⟨#[]⟩,.bool false,.slice none 0 0] 33):=⟨_,rfl⟩;have XD:Hid (Ext wc wd):=Lib.hid (by rw[hwd];exact X7.out.alloc _);rw[<-hwd];clear hwd t0 t1 t2 k0 k1 k2 k3 k4 k5;have ZD:Hid (Ext w1 wd):=Lib.hid (ZC.out.trans XD.out);obtain⟨g0,g1,g2,g3,g4⟩:=cells5g (At.heap_ext BG.out ZD.out);go_wp2_with fail
  refine wp_region_K (S:=fun w'=>w'.cell? ⟨gb,0,none⟩=some (.string ⟨#[103]⟩)/\w'.cell? ⟨gb,1,none⟩=some (.bool true)/\w'.cell? ⟨gb,2,none⟩=some (.slice (some ⟨n1,0,none⟩) 2 2)/\w'.cell? ⟨gb,3,none⟩=some (.slice (some ⟨n2,0,none⟩) 1 1)/\w'.cell? ⟨gb,4,none⟩=some (.slice (some ⟨n3,0,none⟩) 1 1)) (n:=7) (by kernel_rfl) (by exact⟨Ext.cell ((Ext.refl wd).drew) g0,Ext.cell ((Ext.refl wd).drew) g1,Ext.cell ((Ext.refl wd).drew) g2,Ext.cell ((Ext.refl wd).drew) g3,Ext.cell ((Ext.refl wd).drew) g4⟩) (fun hHeld=>?_);refine kT 7 0 ?_ rfl (by kernel_rfl) (fun _ _ _ h=>h) (Or.inl ⟨by rfl,?_⟩) hHeld ?_;rotate_left
  · (intro w' hSw;(try dsimp only at hSw);go_simp <;> with_reducible rfl)
  (try simp only[Act.put,q1,q2,q3])
  refine wpAnyK_step (o:=_) (i:=1) rfl (by kernel_rfl) (fun KK hKK=>?_);go_simp
  (go_at_call 20;refine Calls.mono (by exact HNO.out _) ?_;rintro e w8 ⟨rfl,x8⟩;have X8:Hid (Ext wd w8):=Lib.hid ((Ext.refl wd).drew.trans x8);clear x8)
  refine hKK.out _ _ (fun _=>?_) (fun hH=>?_)
  · (exact⟨Ext.cell (X8.out) g0,Ext.cell (X8.out) g1,Ext.cell (X8.out) g2,Ext.cell (X8.out) g3,Ext.cell (X8.out) g4⟩)
  have hHeld2:=hH;clear hKK KK hHeld hH;have hHeld:=hHeld2 (by decide);clear hHeld2
  (try dsimp only at hHeld)
  (try simp only[Act.put,q1,q2,q3])
  refine wpAnyK_step (o:=_) (i:=2) rfl (by kernel_rfl) (fun KK hKK=>?_);go_simp
  (go_at_call 13;refine Calls.mono (by exact HX.out _ (ZD.out.trans X8.out)) ?_;rintro e w9 ⟨rfl,x9⟩;have X9:Hid (Ext wd w9):=Lib.hid (X8.out.trans x9);clear x9)
  refine hKK.out _ _ (fun _=>?_) (fun hH=>?_)
  · (exact⟨Ext.cell (X9.out) g0,Ext.cell (X9.out) g1,Ext.cell (X9.out) g2,Ext.cell (X9.out) g3,Ext.cell (X9.out) g4⟩)
  have hHeld2:=hH;clear hKK KK hHeld hH;have hHeld:=hHeld2 (by decide);clear hHeld2
  (try dsimp only at hHeld)
  (try simp only[Act.put,q1,q2,q3])
  refine kT 7 3 ?_ rfl (by kernel_rfl) (fun _ _ _ h=>h) (Or.inl ⟨by rfl,?_⟩) hHeld ?_;rotate_left
  · (intro w' hSw;(try dsimp only at hSw);go_simp <;> with_reducible rfl)
  (try simp only[Act.put,q1,q2,q3])
  refine kT 7 4 ?_ rfl (by kernel_rfl) (fun _ _ _ h=>h) (Or.inl ⟨by rfl,?_⟩) hHeld ?_;rotate_left
  · (intro w' hSw;(try dsimp only at hSw);go_simp <;> with_reducible rfl)
  (try simp only[Act.put,q1,q2,q3])
  refine kT 7 5 ?_ rfl (by kernel_rfl) (fun _ _ _ h=>h) (Or.inl ⟨by rfl,?_⟩) hHeld ?_;rotate_left
  · (intro w' hSw;(try dsimp only at hSw);go_simp <;> with_reducible rfl)
  (try simp only[Act.put,q1,q2,q3])
  refine wpAnyK_step (o:=_) (i:=6) rfl (by kernel_rfl) (fun KK hKK=>?_);go_simp;refine hKK.out _ _ (fun _=>?_) (fun hH=>?_)
  · (exact⟨Ext.cell (X9.out) g0,Ext.cell (X9.out) g1,Ext.cell (X9.out) g2,Ext.cell (X9.out) g3,Ext.cell (X9.out) g4⟩)
  have hHeld2:=hH;clear hKK KK hHeld hH;have hHeld:=hHeld2 (by decide);clear hHeld2
  (try dsimp only at hHeld)
  (try simp only[Act.put,q1,q2,q3])
  refine wpAnyK_step (o:=_) (i:=7) rfl (by kernel_rfl) (fun KK hKK=>?_);go_simp;refine hKK.out _ _ (fun h=>absurd rfl h) (fun _=>?_);clear hKK KK
  (try simp only[Act.put,q1,q2,q3])
  refine wpAnyK_done (by kernel_rfl) ?_ _;have XF:Hid (Ext wc w9):=Lib.hid (XD.out.trans X9.out);obtain⟨t0,t1,t2,-⟩:=cells3t (At.heap_ext HT1.out XF.out);obtain⟨k0,k1,k2,k3,k4,k5⟩:=HTA.out.ext XF.out;go_wp2;go_returns;exact⟨rfl,X1.out.trans (ZC.out.trans XF.out)⟩
end Go.Proofs.YtjaeedbjknejdaaGreatDoor.Ex

namespace Go.Proofs.YtjaeedbjknejdaaGreatDoor.Ex
open Go Go.RowKit Go.Sort Go.Lib Go.Shelf Fx Lx Tr At Pa Go.Proofs.YtjaeedbjknejdaaGreatDoor.Nm
theorem texts_card (v v2:Value)(w:World)(hv:GrArg w v)(hv2:OpArg w v2)(he:Env w):Calls Tryz.prog 4 #[v,v2] w fun e w'=>e=.returned (.bool true)/\Ext w w':=by
  obtain⟨g,na,ea,ca,nac,eac,cac,rfl,ha,hcp,hz0,hz1,hz2,hz3⟩:=hv;obtain⟨o,rfl⟩:=hv2;have hfw:=fun(w5:World) (x:Ext w w5)=>few_any g na ea ca nac eac cac w5 (ha.ext x)
  have hawk:=fun(w5:World) (x:Ext w w5)=>awake_any w5 (he.ext x)
  have hsm:=fun(hf:fewG g=true)=>few_small hf hz0 hz1 hz2 hz3
  have hp:=fun(hf:fewG g=true) (w5:World) (x:Ext w w5)=>textP_all g na ea ca nac eac cac o w5 (ha.ext x) (hcp.ext ha x) (hsm hf) (he.ext x)
  have hd:=fun(hf:fewG g=true) (w5:World) (x:Ext w w5)=>textD_all g na ea ca nac eac cac o w5 (ha.ext x) (hsm hf)
  obtain⟨F,hF⟩:∃ F,F=fewG g:=⟨_,rfl⟩;simp only[<-hF] at hfw;rw[<-hF] at hp hd;cases F with
  | false =>
    have HFW:=Lib.hid hfw;have HAWK:=Lib.hid hawk;clear hfw hawk ha hcp hz0 hz1 hz2 hz3 hsm he hp hd hF;obtain⟨mo,ns,rs,mg,rd⟩:=o;unfold opV;dsimp only;generalize g.name=GN at *;generalize g.dir=GD at *;generalize g.N.length=NL at *;generalize g.E.length=EL at *;generalize g.C.length=CL at *;have X0:Hid (Ext w ((w.alloc (.cells #[.string GN,.bool GD,.slice na NL nac,.slice ea EL eac,.slice ca CL cac] 26)).alloc (.cells #[.int .i64 mo,.int .i64 ns,.int .i64 rs,.int .i64 mg,.int .i64 rd] 28))):=Lib.hid (((Ext.refl _).alloc _).alloc _)
    have HG0:Hid (((w.alloc (.cells #[.string GN,.bool GD,.slice na NL nac,.slice ea EL eac,.slice ca CL cac] 26)).alloc (.cells #[.int .i64 mo,.int .i64 ns,.int .i64 rs,.int .i64 mg,.int .i64 rd] 28)).heap[w.heap.size]? = some (.cells #[.string GN,.bool GD,.slice na NL nac,.slice ea EL eac,.slice ca CL cac] 26 (0,0))):=Lib.hid (At.heap_ext (heap_alloc_new w _) ((Ext.refl _).alloc _));have HO0:Hid (((w.alloc (.cells #[.string GN,.bool GD,.slice na NL nac,.slice ea EL eac,.slice ca CL cac] 26)).alloc (.cells #[.int .i64 mo,.int .i64 ns,.int .i64 rs,.int .i64 mg,.int .i64 rd] 28)).heap[w.heap.size+1]? = some (.cells #[.int .i64 mo,.int .i64 ns,.int .i64 rs,.int .i64 mg,.int .i64 rd] 28 (0,0))):=Lib.hid (new2 _ _ _ (by simp));go_enter Tryz.func4,Tryz.ntmps4
    go_wp2_with (first
      | (go_at_call 8;refine Calls.mono (by exact HFW.out _ X0.out) ?_;rintro e w1 ⟨rfl,x1⟩;have X1:=Lib.hid (X0.out.trans x1))
      | (go_at_call 9;refine Calls.mono (by exact HAWK.out _ X1.out) ?_;rintro e w2 ⟨rfl,x2⟩))
    go_returns;exact⟨rfl,X1.out.trans x2⟩
  | true =>
    obtain⟨u,k,hu⟩:∃ (u:ByteArray) (k:Int),∀ e,TextR (textG g o) e->e=.returned (.tuple #[.string u,.int .i64 k]):=by
      cases h:textG g o with
      | ok s=>exact⟨⟨s.toArray⟩,0,fun e he=>he⟩
      | error n=>exact⟨⟨#[]⟩,n,fun e he=>he⟩
    have hp1:=fun(w5:World) (x:Ext w w5)=>(hp rfl w5 x).mono (fun e w' h=>And.intro (hu e h.1) h.2)
    have hd1:=fun(w5:World) (x:Ext w w5)=>(hd rfl w5 x).mono (fun e w' h=>And.intro (hu e h.1) h.2)
    obtain⟨f1,f2⟩:=efacts k;have HFW:=Lib.hid hfw;have HAWK:=Lib.hid hawk;clear hF hsm hz0 hz1 hz2 hz3 hcp ha he hu hp hd hfw hawk;obtain⟨mo,ns,rs,mg,rd⟩:=o;unfold opV at hp1 hd1 ⊢;dsimp only at hp1 hd1 ⊢;generalize g.name=GN at *;generalize g.dir=GD at *;generalize g.N.length=NL at *;generalize g.E.length=EL at *;generalize g.C.length=CL at *;have X0:Hid (Ext w ((w.alloc (.cells #[.string GN,.bool GD,.slice na NL nac,.slice ea EL eac,.slice ca CL cac] 26)).alloc (.cells #[.int .i64 mo,.int .i64 ns,.int .i64 rs,.int .i64 mg,.int .i64 rd] 28))):=Lib.hid (((Ext.refl _).alloc _).alloc _)
    have HG0:Hid (((w.alloc (.cells #[.string GN,.bool GD,.slice na NL nac,.slice ea EL eac,.slice ca CL cac] 26)).alloc (.cells #[.int .i64 mo,.int .i64 ns,.int .i64 rs,.int .i64 mg,.int .i64 rd] 28)).heap[w.heap.size]? = some (.cells #[.string GN,.bool GD,.slice na NL nac,.slice ea EL eac,.slice ca CL cac] 26 (0,0))):=Lib.hid (At.heap_ext (heap_alloc_new w _) ((Ext.refl _).alloc _));have HO0:Hid (((w.alloc (.cells #[.string GN,.bool GD,.slice na NL nac,.slice ea EL eac,.slice ca CL cac] 26)).alloc (.cells #[.int .i64 mo,.int .i64 ns,.int .i64 rs,.int .i64 mg,.int .i64 rd] 28)).heap[w.heap.size+1]? = some (.cells #[.int .i64 mo,.int .i64 ns,.int .i64 rs,.int .i64 mg,.int .i64 rd] 28 (0,0))):=Lib.hid (new2 _ _ _ (by simp));have HP:=Lib.hid hp1;have HD:=Lib.hid hd1;clear hp1 hd1;go_enter Tryz.func4,Tryz.ntmps4
    go_wp2_with (first
      | (go_at_call 8;refine Calls.mono (by exact HFW.out _ X0.out) ?_;rintro e w1 ⟨rfl,x1⟩;have X1:=Lib.hid (X0.out.trans x1);have HG1:=Lib.hid (At.heap_ext HG0.out x1);have HO1:=Lib.hid (At.heap_ext HO0.out x1);obtain⟨a0,a1,a2,a3,a4⟩:=cells5g HG1.out;obtain⟨b0,b1,b2,b3,b4⟩:=cells5g HO1.out)
      | (go_at_call 13;refine Calls.mono (by with_reducible exact HP.out _ X1.out) ?_;rintro e w2 ⟨rfl,x2⟩;have X2:=Lib.hid (X1.out.trans x2);have HG2:=Lib.hid (At.heap_ext HG0.out (x1.trans x2));have HO2:=Lib.hid (At.heap_ext HO0.out (x1.trans x2));obtain⟨a0,a1,a2,a3,a4⟩:=cells5g HG2.out;obtain⟨b0,b1,b2,b3,b4⟩:=cells5g HO2.out)
      | (go_at_call 14;refine Calls.mono (by with_reducible exact HD.out _ X2.out) ?_;rintro e w3 ⟨rfl,x3⟩;have X3:=Lib.hid (X2.out.trans x3))
      | (go_at_call 9;refine Calls.mono (by with_reducible exact HAWK.out _ X3.out) ?_;rintro e w5 ⟨rfl,x5⟩))
    go_returns;exact⟨rfl,X3.out.trans x5⟩
end Go.Proofs.YtjaeedbjknejdaaGreatDoor.Ex
