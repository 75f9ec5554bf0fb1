/- Packed texts: ExpPrt, ExpRsu, LexQuote, TrePrint, TreToks -/
import Derived.Test.YtjaeedbjknejdaaGreatDoorPu27
set_option linter.unusedVariables false
set_option linter.unusedSimpArgs false
set_option maxHeartbeats 16000000
set_option maxRecDepth 100000
namespace Go.Proofs.YtjaeedbjknejdaaGreatDoor.Ex
open Go.Lib Fx Lx Tr At Go.Proofs.YtjaeedbjknejdaaGreatDoor.Nm
def opA (c:Prop)[Decidable c](k v:ByteArray):List Two:=if c then [] else [(k,v)]
theorem op_sub (c:Prop)[Decidable c](k v:ByteArray):(opA c k v).Sublist [(k,v)]:=by
  unfold opA;split
  · exact List.nil_sublist _
  exact List.Sublist.refl _
theorem nodeA_op (x:Nd):nodeA x=opA (x.h=10000) kHeight (fmtB x.h)++opA (x.label=x.name) kLabel x.label++opA (x.ports=[]) kPorts (portsTx x.ports)++opA (x.w=20000) kWidth (fmtB x.w):=rfl
theorem edgeA_op (x:Ed):edgeA x=opA (x.label=⟨#[]⟩) kLabel x.label++opA (x.len=1) kLen (fmtB (1000 * x.len))++opA (x.wt=1) kWeight (fmtB (1000 * x.wt)):=rfl
end Go.Proofs.YtjaeedbjknejdaaGreatDoor.Ex

namespace Go.Proofs.YtjaeedbjknejdaaGreatDoor.Ex
open Go.Lib Fx Lx Tr At Go.Proofs.YtjaeedbjknejdaaGreatDoor.Nm
def opS (c:Prop)[Decidable c](k v:ByteArray):List Stm:=if c then [] else [setS k v]
theorem optsL_op (o:Op5):optsL o=opS (o.mode=0) kMode (modeT o.mode)++opS (o.ns=10000) kNs (fmtB o.ns)++opS (o.rs=20000) kRs (fmtB o.rs)++opS (o.mg=5000) kMg (fmtB o.mg)++opS (o.rd=8) kRd (fmtB (1000 * o.rd)):=rfl
theorem opS_mem {c:Prop}[Decidable c]{k v:ByteArray}{x:Stm}(h:x ∈ opS c k v):x=setS k v:=by
  unfold opS at h;split at h
  · cases h
  exact List.mem_singleton.1 h
end Go.Proofs.YtjaeedbjknejdaaGreatDoor.Ex

namespace Go.Proofs.YtjaeedbjknejdaaGreatDoor.Lx
open Go.Lib Fx
def plainB (l:List UInt8):Bool:=l.all (fun b=>decide (32<=b.toNat/\b.toNat<=126))
def escB (b:UInt8):List UInt8:=if b=34\/b=92 then [92,b] else [b]
def escL (l:List UInt8):List UInt8:=l.flatMap escB
def quote (l:List UInt8):List UInt8 × Int :=
  if 32 < l.length then ([],2) else if !plainB l then ([],1) else (34::(escL l++[34]),0)
theorem escL_le : ∀ l:List UInt8,(escL l).length<=2 * l.length
  | []=>Nat.le_refl _
  | b::r=>by
    have ih:=escL_le r;have e:escL (b::r)=escB b++escL r:=rfl;have hb:(escB b).length<=2:=by unfold escB;split <;> simp
    rw[e,List.length_append,List.length_cons];omega
end Go.Proofs.YtjaeedbjknejdaaGreatDoor.Lx

namespace Go.Proofs.YtjaeedbjknejdaaGreatDoor.Tr
open Go.Lib Fx Lx
def valueT (s:ByteArray):List UInt8:=if nameB s.data.toList=true then s.data.toList else if(parse s.data.toList).2=0 then s.data.toList else (quote s.data.toList).1
def attrT (q:Two):List UInt8:=q.1.data.toList++61::valueT q.2
def sepT (sep:List UInt8):List (List UInt8)->List UInt8
  | []=>[]
  | [x]=>x
  | x::y::r=>x++sep++sepT sep (y::r)
def listedT (a:List Two):List UInt8:=91::(sepT [44,32] (a.map attrT)++[93])
def tailT (a:List Two):List UInt8:=if a.isEmpty=true then [59] else 32::(listedT a++[59])
def refT (r:Two):List UInt8:=r.1.data.toList++(if r.2.size=0 then [] else 58::r.2.data.toList)
def arrow (d:Bool):List UInt8:=if d then [32,45,62,32] else [32,45,45,32]
def indT (n:Nat):List UInt8:=List.replicate (4 * n) 32
mutual
def printS (d:Bool)(lev:Nat):Stm->List UInt8
  | .mk k n r a b =>
    if k=1 then indT lev++n.data.toList++tailT a++[10]
    else if k=2 then indT lev++sepT (arrow d) (r.map refT)++tailT a++[10]
    else if k=3 then indT lev++n.data.toList++[32]++listedT a++[59,10]
    else if k=4 then indT lev++[115,101,116,32]++n.data.toList++[32,61,32]++valueT (a.headD (⟨#[]⟩,⟨#[]⟩)).2++[59,10]
    else indT lev++[99,108,117,115,116,101,114,32]++n.data.toList++[32,123,10]++printL d (lev+1) b++indT lev++[125,10]
def printL (d:Bool)(lev:Nat):List Stm->List UInt8
  | []=>[]
  | x::r=>printS d lev x++printL d lev r
end
def printT (d:Bool)(name:ByteArray)(body:List Stm):List UInt8 :=
  (if d then [100,105,103,114,97,112,104,32] else [103,114,97,112,104,32])++name.data.toList++[32,123,10]++printL d 1 body++[125,10]
theorem printL_nil (d:Bool)(lev:Nat):printL d lev []=[]:=by rw[printL]
theorem printL_cons (d:Bool)(lev:Nat)(x:Stm)(r:List Stm):printL d lev (x::r)=printS d lev x++printL d lev r:=by rw[printL]
theorem printL_snoc (d:Bool)(lev:Nat)(x:Stm):∀ L:List Stm,printL d lev (L++[x])=printL d lev L++printS d lev x
  | []=>by rw[List.nil_append,printL_cons,printL_nil,List.append_nil,List.nil_append]
  | y::r=>by rw[List.cons_append,printL_cons,printL_cons,printL_snoc d lev x r,List.append_assoc]
theorem sepT_snoc (sep x:List UInt8):∀ L:List (List UInt8),sepT sep (L++[x])=if L.isEmpty=true then x else sepT sep L++sep++x
  | []=>rfl
  | [y]=>by simp[sepT]
  | y::z::r=>by
    have ih:=sepT_snoc sep x (z::r);rw[if_neg (by simp)] at ih ⊢;show y++sep++sepT sep (z::r++[x])=_;rw[ih];show _=y++sep++sepT sep (z::r)++sep++x;simp[List.append_assoc]
end Go.Proofs.YtjaeedbjknejdaaGreatDoor.Tr

namespace Go.Proofs.YtjaeedbjknejdaaGreatDoor.Tr
open Go.Lib Fx Lx
def mk (m:List UInt8)(ln:Int):Tok:=⟨5,m,0,ln⟩
def nm (x:ByteArray)(ln:Int):Tok:=⟨1,x.data.toList,0,ln⟩
def okS (x:Stm):Prop:=formB x=true/\((x.kind=1\/x.kind=4\/x.kind=5)->nameB x.name.data.toList=true)/\x.refs.all refB=true/\(∀ q ∈ x.attrs,(x.kind ≠ 4->nameB q.1.data.toList=true)/\q.2.size<=32/\q.2.data.toList.all okT=true)
theorem attrsGo_ok (kind:Int):∀ (L D:List Two),attrsGo kind L D=0->∀ q ∈ L,(kind ≠ 4->nameB q.1.data.toList=true)/\q.2.size<=32/\q.2.data.toList.all okT=true
  | x::r,D,h,q,hq=>by
    rw[attrsGo] at h;split at h
    · exact absurd h (by decide)
    · rename_i h1;split at h
      · exact absurd h (by decide)
      split at h
      · exact absurd h (by decide)
      rename_i h3;split at h
      · exact absurd h (by decide)
      rename_i h4;rcases List.mem_cons.1 hq with rfl | hq
      · refine⟨fun hk=>?_,by omega,by simpa using h4⟩;cases hn:nameB q.1.data.toList
        · exact absurd ⟨hk,hn⟩ h1
        rfl
      exact attrsGo_ok kind r _ h q hq
theorem okS_of (x:Stm)(lev:Nat)(h:stmE (x,lev)=0):okS x:=by
  unfold stmE at h;dsimp only at h;split at h
  · exact absurd h (by decide)
  rename_i h1;split at h
  · exact absurd h (by decide)
  split at h
  · exact absurd h (by decide)
  rename_i h3;split at h
  · exact absurd h (by decide)
  rename_i h4;refine⟨by simpa using h1,fun hk=>?_,by simpa using h4,?_⟩
  · cases hn:nameB x.name.data.toList
    · exact absurd ⟨hk,hn⟩ h3
    rfl
  unfold attrsE at h;split at h
  · exact absurd h (by decide)
  exact attrsGo_ok x.kind x.attrs [] h
theorem firstE_zero : ∀ (l:List (Stm × Nat)),firstE l=0->∀ p ∈ l,stmE p=0
  | q::r,h,p,hp=>by
    rw[firstE] at h;by_cases hq:stmE q=0
    · rw[if_neg (fun h'=>h' hq)] at h;rcases List.mem_cons.1 hp with rfl | hp
      · exact hq
      exact firstE_zero r h p hp
    · rw[if_pos hq] at h;exact absurd h hq
theorem valid_ok (name:ByteArray)(L:List Stm)(h:validE name L=0):nameB name.data.toList=true/\(flatL 0 L).length<=512/\(∀ p ∈ flatL 0 L,stmE p=0)/\AllL okS L:=by
  unfold validE at h;split at h
  · exact absurd h (by decide)
  rename_i h1;split at h
  · exact absurd h (by decide)
  rename_i h2;have h3:=firstE_zero _ h;exact⟨by simpa using h1,by omega,h3,allL_flat okS 0 L fun q hq=>okS_of q.1 q.2 (h3 q hq)⟩
end Go.Proofs.YtjaeedbjknejdaaGreatDoor.Tr
