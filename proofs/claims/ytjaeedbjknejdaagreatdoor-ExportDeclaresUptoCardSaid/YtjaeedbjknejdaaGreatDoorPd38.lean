/- Packed texts: TrePrA, TreLisR, TreLen, ExpTreC, ExpFew, ExpOpn -/
import Derived.Test.YtjaeedbjknejdaaGreatDoorPd37
import Derived.Test.YtjaeedbjknejdaaGreatDoorPd34
import Derived.SizedLaws
set_option linter.unusedVariables false
set_option linter.unusedSimpArgs false
set_option maxHeartbeats 16000000
set_option maxRecDepth 100000
namespace Go.Proofs.YtjaeedbjknejdaaGreatDoor.Tr
open Go.RowKit Go.Sort Go.Lib Go.Shelf Fx Lx
theorem print_bad (nm:ByteArray)(dir:Bool)(b:Option Addr)(L:List Stm)(cap:Nat)(w:World)(h:StmsAt w.heap.size w b L)(hs:sizeL L<=1048576)(hnm:nm.size<=1048576)(hv:validE nm L ≠ 0):
  Calls Tryz.prog 37 #[.agg #[.string nm,.bool dir,.slice b L.length cap]] w fun e w'=>e=.returned (.string ⟨#[]⟩)/\Ext w w':=by
 have hx0:Ext w (w.alloc (.cells #[.string nm,.bool dir,.slice b L.length cap] 33)):=(Ext.refl _).alloc _;have hval:=fun w' (x:Ext w w')=>valid_any nm dir b L cap w.heap.size w' x.size (StmsAt.below x L h) hs (by omega)
 generalize validE nm L=V at *;obtain⟨f0,f0'⟩:=ne_facts hv;generalize L.length=N at *;have HVAL:=hid hval;have HX:=hid hx0;clear hval hx0 h hs hnm hv;go_enter Tryz.func37,Tryz.ntmps37;go_wp2_with (go_at_call 30;refine(HVAL.out _ HX.out).mono ?_;rintro e w1 ⟨rfl,x1⟩);go_ret;exact⟨rfl,HX.out.trans x1⟩
theorem print_any (nm:ByteArray)(dir:Bool)(b:Option Addr)(L:List Stm)(cap:Nat)(w:World)(he:Env w)(h:StmsAt w.heap.size w b L)(hs:sizeL L<=1048576)(hnm:nm.size<=1048576)(hlen:validE nm L=0->(printT dir nm L).length+1000<=140737488355328):
  Calls Tryz.prog 37 #[.agg #[.string nm,.bool dir,.slice b L.length cap]] w fun e w'=>e=.returned (.string ⟨(if validE nm L=0 then printT dir nm L else []).toArray⟩)/\Ext w w':=by
 by_cases hv:validE nm L=0
 ·rw[if_pos hv];cases dir
  ·exact print_false nm b L cap w he h hs hnm (hlen hv) hv
  exact print_true nm b L cap w he h hs hnm (hlen hv) hv
 rw[if_neg hv];exact print_bad nm dir b L cap w h hs hnm hv
end Go.Proofs.YtjaeedbjknejdaaGreatDoor.Tr

namespace Go.Proofs.YtjaeedbjknejdaaGreatDoor.Tr
open Go.RowKit Go.Sort Go.Lib Go.Shelf Fx Lx
abbrev bs (l:List UInt8):ByteArray:=⟨l.toArray⟩
end Go.Proofs.YtjaeedbjknejdaaGreatDoor.Tr

namespace Go.Proofs.YtjaeedbjknejdaaGreatDoor.Tr
open Go.Lib Fx Lx
theorem valueT_len (s:ByteArray):(valueT s).length<=2 * s.size+2:=by
 have e:s.size=s.data.toList.length:=by simp
 unfold valueT;split
 ·omega
 split
 ·omega
 unfold quote;split
 ·simp
 split
 ·simp
 have:=escL_le s.data.toList;simp only[List.length_cons,List.length_append,List.length_nil];omega
theorem attrT_len (q:Two):(attrT q).length+2<=5 * (q.1.size+q.2.size+1):=by
 have e:q.1.size=q.1.data.toList.length:=by simp
 have:=valueT_len q.2;unfold attrT;rw[List.length_append,List.length_cons];omega
theorem sepT_len (sep:List UInt8)(F:Two->List UInt8)(h:∀ q,(F q).length+sep.length<=5 * (q.1.size+q.2.size+1)):∀ L:List Two,(sepT sep (L.map F)).length<=5 * sizeTwo L
 | []=>by simp[sepT]
 | [q]=>by have:=h q;show(F q).length<=_;simp only[sizeTwo];omega
 | q::r::L=>by
  have h1:=h q;have ih:=sepT_len sep F h (r::L);show(F q++sep++sepT sep ((r::L).map F)).length<=_;rw[List.length_append,List.length_append];rw[sizeTwo];omega
theorem listedT_len (L:List Two):(listedT L).length<=5 * sizeTwo L+2:=by
 have:=sepT_len [44,32] attrT attrT_len L;unfold listedT;simp only[List.length_cons,List.length_append,List.length_nil];omega
theorem tailT_len (L:List Two):(tailT L).length<=5 * sizeTwo L+4:=by
 have:=listedT_len L;unfold tailT;split
 ·simp
 simp only[List.length_cons,List.length_append,List.length_nil];omega
theorem refT_len (d:Bool)(q:Two):(refT q).length+(arrow d).length<=5 * (q.1.size+q.2.size+1):=by
 have e:q.1.size=q.1.data.toList.length:=by simp
 have e2:q.2.size=q.2.data.toList.length:=by simp
 have:(arrow d).length=4:=by cases d <;> rfl
 unfold refT;rw[List.length_append];split
 ·simp only[List.length_nil];omega
 rw[List.length_cons];omega
theorem indT_len (n:Nat):(indT n).length=4 * n:=by unfold indT;simp
mutual
theorem printS_len (d:Bool):∀ (x:Stm) (lev:Nat),(printS d lev x).length<=sizeS x * (30+8 * (lev+sizeS x))
 | .mk k n r a b,lev=>by
  have ih:=printL_len d b (lev+1);have hr:=sepT_len (arrow d) refT (refT_len d) r;have hl:=listedT_len a;have ht:=tailT_len a;have hi:=indT_len lev;have hn:n.data.toList.length=n.size:=by simp
  have hv:(valueT (a.headD (⟨#[]⟩,⟨#[]⟩)).2).length<=2 * sizeTwo a+2:=by
   have:=valueT_len (a.headD (⟨#[]⟩,⟨#[]⟩)).2;cases a with
   | nil=>exact this
   | cons q t=>rw[sizeTwo];simp only[List.headD_cons] at this ⊢;omega
  obtain⟨S,hS⟩:∃ S,S=sizeS (.mk k n r a b):=⟨_,rfl⟩;rw[<-hS];rw[sizeS] at hS
  have key:(n.size+sizeTwo r+sizeTwo a+1) * (30+8 * lev)+sizeL b * (30+8 * (lev+S))<=S * (30+8 * (lev+S)):=by
   have h1:(n.size+sizeTwo r+sizeTwo a+1) * (30+8 * lev)<=(n.size+sizeTwo r+sizeTwo a+1) * (30+8 * (lev+S)):=Nat.mul_le_mul_left _ (by omega)
   have h2:S * (30+8 * (lev+S))=(n.size+sizeTwo r+sizeTwo a+1) * (30+8 * (lev+S))+sizeL b * (30+8 * (lev+S)):=by
    rw[<-Nat.add_mul];congr 1;omega
   omega
  have low:n.size * 30+sizeTwo r * 30+sizeTwo a * 30+30+8 * lev<=(n.size+sizeTwo r+sizeTwo a+1) * (30+8 * lev):=by
   rw[Nat.mul_add];have:1 * (8 * lev)<=(n.size+sizeTwo r+sizeTwo a+1) * (8 * lev):=Nat.mul_le_mul_right _ (by omega);omega
  have ih2:(printL d (lev+1) b).length<=sizeL b * (30+8 * (lev+S)):=Nat.le_trans ih (Nat.mul_le_mul_left _ (by omega));have goal:∀ m,m<=n.size * 30+sizeTwo r * 30+sizeTwo a * 30+30+8 * lev+(printL d (lev+1) b).length->m<=S * (30+8 * (lev+S)):=fun m hm=>by omega
  rw[printS];apply goal;split
  ·simp only[List.length_append,List.length_cons,List.length_nil];omega
  ·split
   ·simp only[List.length_append,List.length_cons,List.length_nil];omega
   split
   ·simp only[List.length_append,List.length_cons,List.length_nil];omega
   split
   ·simp only[List.length_append,List.length_cons,List.length_nil];omega
   simp only[List.length_append,List.length_cons,List.length_nil];omega
theorem printL_len (d:Bool):∀ (L:List Stm) (lev:Nat),(printL d lev L).length<=sizeL L * (30+8 * (lev+sizeL L))
 | [],lev=>by rw[printL,sizeL];simp
 | x::r,lev=>by
  have h1:=printS_len d x lev;have h2:=printL_len d r lev;rw[printL,sizeL,List.length_append,Nat.add_mul];have h3:sizeS x * (30+8 * (lev+sizeS x))<=sizeS x * (30+8 * (lev+(sizeS x+sizeL r))):=Nat.mul_le_mul_left _ (by omega);have h4:sizeL r * (30+8 * (lev+sizeL r))<=sizeL r * (30+8 * (lev+(sizeS x+sizeL r))):=Nat.mul_le_mul_left _ (by omega);omega
end
theorem printT_len (d:Bool)(name:ByteArray)(L:List Stm)(hn:name.size<=1048576)(hL:sizeL L<=1048576):(printT d name L).length+1000<=140737488355328:=by
 have h1:=printL_len d L 1;have h2:sizeL L * (30+8 * (1+sizeL L))<=1048576 * (30+8 * (1+1048576)):=Nat.mul_le_mul hL (by omega);have hn2:name.data.toList.length=name.size:=by simp
 unfold printT;simp only[List.length_append,List.length_cons,List.length_nil];have:(if d=true then [100,105,103,114,97,112,104,32] else [103,114,97,112,104,32]:List UInt8).length<=8:=by cases d <;> decide
 omega
end Go.Proofs.YtjaeedbjknejdaaGreatDoor.Tr

namespace Go.Proofs.YtjaeedbjknejdaaGreatDoor.Ex
open Go Go.RowKit Go.Sort Go.Lib Go.Shelf Fx Lx Tr At Pa Go.Proofs.YtjaeedbjknejdaaGreatDoor.Nm
theorem tree_bad {g:Gr}{o:Op5}(h:grE g ≠ 0\/inR5 o=false):treeT g o=.error 1:=by unfold treeT;rw[if_pos h]
theorem treeP_all (g:Gr)(na ea ca:Option Addr)(nac eac cac:Nat)(o:Op5)(w:World)(ha:GrIn w (.agg #[.string g.name,.bool g.dir,.slice na g.N.length nac,.slice ea g.E.length eac,.slice ca g.C.length cac]) g)(hcp:GrCp w (.agg #[.string g.name,.bool g.dir,.slice na g.N.length nac,.slice ea g.E.length eac,.slice ca g.C.length cac]) g)(hsm:GrSm g)(he:Env w):
  Calls Tryz.prog 10 #[.agg #[.string g.name,.bool g.dir,.slice na g.N.length nac,.slice ea g.E.length eac,.slice ca g.C.length cac],opV o] w fun e w'=>TreeR g (treeT g o) w.heap.size e w'/\Ext w w':=by
 by_cases hb:grE g ≠ 0\/inR5 o=false
 ·rw[tree_bad hb];exact(treeA_bad g na ea ca nac eac cac o w ha hcp hsm hb).mono fun e w' h=>h
 have h1:grE g=0:=Classical.not_not.1 fun e=>hb (.inl e)
 have h2:inR5 o=true:=by
  cases e:inR5 o
  ·exact absurd (.inr e) hb
  rfl
 exact treeA_good g na ea ca nac eac cac o w ha hcp hsm h1 h2 he
theorem treeR_ok {g:Gr}{L:List Stm}{m:Nat}{e:Ending}{w':World}(h:TreeR g (.ok L) m e w'):∃ b c,e=.returned (.tuple #[.agg #[.string g.name,.bool g.dir,.slice b L.length c],.int .i64 0])/\StmsAt w'.heap.size w' b L/\L.length<=c/\c<=maxLen:=by
 obtain⟨b,c,h1,h2,h3⟩:=h;exact⟨b,c,h1,stmsV_at h2,h3⟩
theorem stms_up {w w':World}{b:Option Addr}{L:List Stm}(h:StmsAt w.heap.size w b L)(x:Ext w w'):StmsAt w'.heap.size w' b L:=StmsAt.mono x.size L (StmsAt.below x L h)
def textG (g:Gr)(o:Op5):Except Int (List UInt8):=match treeT g o with
 | .error n=>.error n
 | .ok B=>if 16384 < (printT g.dir g.name B).length then .error 2 else .ok (printT g.dir g.name B)
def TextR (r:Except Int (List UInt8))(e:Ending):Prop:=match r with
 | .ok s=>e=.returned (.tuple #[.string ⟨s.toArray⟩,.int .i64 0])
 | .error n=>e=.returned (.tuple #[.string ⟨#[]⟩,.int .i64 n])
theorem tree_err {g:Gr}{o:Op5}{n:Int}(h:treeT g o=.error n):n ≠ 0:=by
 unfold treeT at h;split at h
 ·injection h with h;subst h;decide
 split at h
 ·injection h with h;subst h;decide
 split at h
 ·rename_i h3;injection h with h;subst h;exact h3
 cases h
theorem textP_all (g:Gr)(na ea ca:Option Addr)(nac eac cac:Nat)(o:Op5)(w:World)(ha:GrIn w (.agg #[.string g.name,.bool g.dir,.slice na g.N.length nac,.slice ea g.E.length eac,.slice ca g.C.length cac]) g)(hcp:GrCp w (.agg #[.string g.name,.bool g.dir,.slice na g.N.length nac,.slice ea g.E.length eac,.slice ca g.C.length cac]) g)(hsm:GrSm g)(he:Env w):
  Calls Tryz.prog 13 #[.agg #[.string g.name,.bool g.dir,.slice na g.N.length nac,.slice ea g.E.length eac,.slice ca g.C.length cac],opV o] w fun e w'=>TextR (textG g o) e/\Ext w w':=by
 have htr:=fun(w5:World) (x:Ext w w5)=>treeP_all g na ea ca nac eac cac o w5 (ha.ext x) (hcp.ext ha x) hsm (he.ext x)
 have herr:=fun(n:Int) (h:treeT g o=.error n)=>tree_err h
 have hprt:=fun(B:List Stm) (h:treeT g o=.ok B) (b:Option Addr) (c:Nat) (w5:World) (x:Ext w w5) (hst:StmsAt w5.heap.size w5 b B)=>by
  obtain⟨-,-,-,hv,-,hs1,hs2,-⟩:=tree_ok h;have:=print_any g.name g.dir b B c w5 (he.ext x) hst hs2 (by omega) (fun _=>printT_len g.dir g.name B (by omega) hs2);rw[if_pos hv] at this;exact this
 unfold textG;obtain⟨R,hR⟩:∃ R,R=treeT g o:=⟨_,rfl⟩;rw[<-hR];simp only[<-hR] at htr herr hprt;obtain⟨q,hq⟩:∃ n,n=g.N.length:=⟨_,rfl⟩;obtain⟨el,hel⟩:∃ n,n=g.E.length:=⟨_,rfl⟩;obtain⟨cl,hcle⟩:∃ n,n=g.C.length:=⟨_,rfl⟩;simp only[<-hq,<- hel,<- hcle] at htr ⊢;obtain⟨mo,ns,rs,mg,rd⟩:=o;unfold opV at htr ⊢;dsimp only at htr ⊢;have X0:Hid (Ext w ((w.alloc (.cells #[.string g.name,.bool g.dir,.slice na q nac,.slice ea el eac,.slice ca cl cac] 26)).alloc (.cells #[.int .i64 mo,.int .i64 ns,.int .i64 rs,.int .i64 mg,.int .i64 rd] 28))):=hid (((Ext.refl _).alloc _).alloc _);cases R with
 | error n =>
  obtain⟨f1,f2⟩:=nfacts (herr n rfl);have HTR:=hid htr;clear htr herr hprt hR ha hsm hcp he hq hel hcle;dsimp only;go_enter Tryz.func13,Tryz.ntmps13;go_wp2_with (go_at_call 10;refine Calls.mono (by exact HTR.out _ X0.out) ?_;rintro e w1 ⟨hr,x1⟩;have hr:e=.returned (.tuple #[tr0V,.int .i64 n]):=hr;subst hr;unfold tr0V);go_returns;exact⟨rfl,X0.out.trans (x1.alloc _)⟩
 | ok B =>
  have HTR:=hid (fun(w5:World) (x:Ext w w5)=>(htr w5 x).mono (fun e w' h=>And.intro (treeR_ok h.1) h.2));have HPR:=hid (hprt B rfl);dsimp only;obtain⟨P,hP⟩:∃ P,P=bs (printT g.dir g.name B):=⟨_,rfl⟩;have hPl:P.size=(printT g.dir g.name B).length:=by rw[hP];rfl
  have hPe:(⟨(printT g.dir g.name B).toArray⟩:ByteArray)=P:=by rw[hP]
  rw[hPe] at HPR;have HR:Hid (TextR (if 16384 < (printT g.dir g.name B).length then .error 2 else .ok (printT g.dir g.name B))=TextR (if 16384 < P.size then .error 2 else .ok P.data.toList)):=hid (by rw[hPl,hP]);rw[HR.out];clear htr herr hprt hR ha hsm hcp he hq hel hcle HR hPl hPe hP;have HBL:Hid (∃ n,n=B.length):=hid ⟨_,rfl⟩;generalize g.name=GN at *;generalize g.dir=GD at *;have STEP:∀ (w1:World) (b:Option Addr) (c:Nat),Ext w w1->StmsAt w1.heap.size w1 b B->Hid (Calls Tryz.prog 37 #[.agg #[.string GN,.bool GD,.slice b B.length c]] (w1.alloc (.cells #[.string GN,.bool GD,.slice b B.length c] 33)) fun e w'=>e=.returned (.string P)/\Ext (w1.alloc (.cells #[.string GN,.bool GD,.slice b B.length c] 33)) w'):=fun w1 b c x h=>hid (HPR.out b c _ (x.alloc _) (StmsAt.mono (by simp) B (StmsAt.below ((Ext.refl w1).alloc _) B h)))
  clear HPR;generalize B.length=N at *;by_cases hb:16384 < P.size
  ·have g1:(16384:Int) < P.size:=by omega
   rw[if_pos hb];clear hb;go_enter Tryz.func13,Tryz.ntmps13
   go_wp2_with (first
    | (go_at_call 10;refine Calls.mono (by exact HTR.out _ X0.out) ?_;rintro e w1 ⟨⟨b,c,rfl,hst,-,-⟩,x1⟩;have X1:=hid (X0.out.trans x1);have HST:=STEP _ b c X1.out hst;clear hst)
    | (go_at_call 37;refine HST.out.mono ?_;rintro e w2 ⟨rfl,x2⟩))
   go_returns;exact⟨rfl,(X1.out.alloc _).trans x2⟩
  ·have g1:¬ (16384:Int) < P.size:=by omega
   rw[if_neg hb];clear hb;go_enter Tryz.func13,Tryz.ntmps13
   go_wp2_with (first
    | (go_at_call 10;refine Calls.mono (by exact HTR.out _ X0.out) ?_;rintro e w1 ⟨⟨b,c,rfl,hst,-,-⟩,x1⟩;have X1:=hid (X0.out.trans x1);have HST:=STEP _ b c X1.out hst;clear hst)
    | (go_at_call 37;refine HST.out.mono ?_;rintro e w2 ⟨rfl,x2⟩))
   go_returns;exact⟨rfl,(X1.out.alloc _).trans x2⟩
end Go.Proofs.YtjaeedbjknejdaaGreatDoor.Ex

namespace Go.Proofs.YtjaeedbjknejdaaGreatDoor.Ex
open Go Go.RowKit Go.Sort Go.Lib Go.Shelf Fx Lx Tr At Pa Go.Proofs.YtjaeedbjknejdaaGreatDoor.Nm
theorem size_op : (Tryz.prog.info? 28).map (·.size)=some 5:=by kernel_rfl
theorem normal_any (w:World):Calls Tryz.prog 20 #[] w fun e w'=>e=.returned (opV ⟨0,10000,20000,5000,8⟩)/\Ext w w':=by
 go_enter Tryz.func20,Tryz.ntmps20;go_wp2
 (try simp only[Exit.inBlock,Exit.then])
 refine bodyPost_ret (results_cell_row rfl _ _ w.heap.size 28 #[.int .i64 0,.int .i64 10000,.int .i64 20000,.int .i64 5000,.int .i64 8] (0,0) _ rfl (heap_alloc_new w _) Tryz.underlying28 rfl size_op) rfl ?_;exact⟨rfl,(Ext.refl _).alloc _⟩
end Go.Proofs.YtjaeedbjknejdaaGreatDoor.Ex

namespace Go.Proofs.YtjaeedbjknejdaaGreatDoor.Ex
open Go.RowKit Go.Lib Fx Lx Tr At Pa Go.ChangeShapes Go.WideShapes Go.Deep Go.Proofs.YtjaeedbjknejdaaGreatDoor.Nm
instance : Inhabited Nd:=⟨⟨⟨#[]⟩,⟨#[]⟩,0,0,0,[]⟩⟩
instance : Inhabited Ed:=⟨⟨0,0,0,0,⟨#[]⟩,0,0⟩⟩
section
variable {H:Type} {enc:TypeId × Value->H} {W:World} {base:Nat} {sp:Nat->Bool} {held:Bool}
end
end Go.Proofs.YtjaeedbjknejdaaGreatDoor.Ex
