/- Packed texts: ExpVl2, LexQuote, TrePrint, TreToks, TrePar, TreRtp -/
import Derived.Test.YtjaeedbjknejdaaGreatDoorPd28
set_option linter.unusedVariables false
set_option linter.unusedSimpArgs false
set_option maxHeartbeats 16000000
set_option maxRecDepth 100000
namespace Go.Proofs.YtjaeedbjknejdaaGreatDoor.Ex
open Go.Lib Fx Lx Tr At Go.Proofs.YtjaeedbjknejdaaGreatDoor.Nm
def Z2 (n:Int):Prop:=n=0\/n=2
abbrev OkL (l:List UInt8):Prop:=l.all Tr.okT=true
theorem okL_app {a b:List UInt8}(ha:OkL a)(hb:OkL b):OkL (a++b):=by unfold OkL at *;rw[List.all_append,ha,hb];rfl
theorem okL_of {l:List UInt8}(h:∀ b ∈ l,Tr.okT b=true):OkL l:=List.all_eq_true.2 h
theorem ok_isD {b:UInt8}(h:isD b=true):Tr.okT b=true:=by
 unfold isD at h;unfold Tr.okT;simp only[Bool.and_eq_true,decide_eq_true_eq] at h ⊢;omega
theorem ok_isL {b:UInt8}(h:isL b=true):Tr.okT b=true:=by
 unfold isL at h;unfold Tr.okT;simp only[Bool.and_eq_true,Bool.or_eq_true,decide_eq_true_eq] at h ⊢;omega
theorem okL_digits {l:List UInt8}(h:l.all isD=true):OkL l:=okL_of fun b hb=>ok_isD (List.all_eq_true.1 h b hb)
theorem okL_name {l:List UInt8}(h:nameB l=true):OkL l:=okL_of fun b hb=>by
 rcases(name_bytes h).2 b hb with h | h
 ·exact ok_isL h
 exact ok_isD h
theorem okL_fmt {n:Int}(h0:0<=n)(h1:n<=1048576000):OkL (fmtB n).data.toList:=by
 show OkL (fmt n);obtain⟨u,q,r,A,D,-,-,-,hr,-,-,-,hA,hD,-,-,hf⟩:=fmt_parts n (by omega) (by omega);rw[hf];have hAd:A.all isD=true:=by rw[<-hA];exact(dd_props q).2.1
 have hDd:(D.drop 1).all isD=true:=by rw[<-hD];exact(frac3 r hr).2.1
 refine okL_app (by by_cases hn:n < 0;rw[if_pos hn];decide;rw[if_neg hn];decide) (okL_app (okL_digits hAd) ?_);split
 ·have:=okL_digits ((trim_props (D.drop 1)).2.1 hDd);exact okL_app (a:=[46]) (by decide) this
 exact(show OkL [] by decide)
theorem okL_join : ∀ (r:List (List UInt8)) (x:List UInt8),(∀ y ∈ x::r,OkL y)->OkL (Lib.join (x::r) [44,32])
 | [],x,h=>by rw[join_one];exact h x (by simp)
 | y::r,x,h=>by
  rw[join_more];exact okL_app (h x (by simp)) (okL_app (a:=[44,32]) (by decide) (okL_join r y fun z hz=>h z (List.mem_cons_of_mem _ hz)))
theorem okL_ports {L:List Prt}(h:∀ q ∈ L,nameB q.1.data.toList=true):OkL (portsTx L).data.toList:=by
 show OkL (Lib.join (L.map portTx) [44,32])
 have hp:∀ y ∈ L.map portTx,OkL y:=fun y hy=>by
  obtain⟨q,hq,rfl⟩:=List.mem_map.1 hy;unfold portTx;refine okL_app (okL_app (okL_name (h q hq)) (show OkL [32] by decide)) ?_;unfold sideT;split
  ·decide
  split
  ·decide
  split <;> decide
 cases hm:L.map portTx with
 | nil=>rw[join_nil];exact(show OkL [] by decide)
 | cons x r=>rw[hm] at hp;exact okL_join r x hp
theorem attrs_02 {kind:Int}:∀ (L D:List Two),(∀ q ∈ L,(kind=4\/nameB q.1.data.toList=true)/\OkL q.2.data.toList)->Asc L->(∀ d ∈ D,∀ q ∈ L,d.1 ≠ q.1)->Z2 (attrsGo kind L D)
 | [],_,_,_,_=>.inl rfl
 | q::r,D,h,ha,hd=>by
  obtain⟨h1,h2⟩:=h q (by simp);obtain⟨a1,a2⟩:=List.pairwise_cons.1 ha;unfold attrsGo
  rw[if_neg (by rcases h1 with h | h <;> simp[h]),if_neg (by
   simp only[List.any_eq_true,decide_eq_true_eq,not_exists,not_and]
   exact fun d hm=>hd d hm q (by simp))]
  split
  ·exact .inr rfl
  ·rw[if_neg (by rw[h2];decide)];refine attrs_02 r _ (fun x hx=>h x (by simp[hx])) a2 fun d hm x hx=>?_
   rcases List.mem_append.1 hm with hm | hm
   ·exact hd d hm x (by simp[hx])
   rw[List.mem_singleton.1 hm];exact ltK_ne (a1 x hx)
theorem attrsE_02 {x:Stm}(h:∀ q ∈ x.attrs,(x.kind=4\/nameB q.1.data.toList=true)/\OkL q.2.data.toList)(ha:Asc x.attrs):Z2 (attrsE x):=by
 unfold attrsE;split
 ·exact .inr rfl
 exact attrs_02 _ _ h ha (fun d hd=>by cases hd)
theorem stm_02 {p:Stm × Nat}(hf:formB p.1=true)(hn:(p.1.kind=1\/p.1.kind=4\/p.1.kind=5)->nameB p.1.name.data.toList=true)(hr:p.1.refs.all refB=true)(ha:Z2 (attrsE p.1)):Z2 (stmE p):=by
 unfold stmE;rw[if_neg (by rw[hf];decide)];split
 ·exact .inr rfl
 rw[if_neg (fun h=>by rw[hn h.1] at h;exact absurd h.2 (by decide)),if_neg (by rw[hr];decide)];exact ha
theorem first_02 : ∀ L:List (Stm × Nat),(∀ p ∈ L,Z2 (stmE p))->Z2 (firstE L)
 | [],_=>.inl rfl
 | x::r,h=>by
  unfold firstE;split
  ·exact h x (by simp)
  ·exact first_02 r fun p hp=>h p (by simp[hp])
theorem opA_mem {c:Prop}[Decidable c]{k v:ByteArray}{q:Two}(h:q ∈ opA c k v):q=(k,v):=by
 unfold opA at h;split at h
 ·cases h
 exact List.mem_singleton.1 h
theorem node_02 {nc:Nat}{D:List Nd}{x:Nd}(h:ndE nc D x=0)(lev:Nat):Z2 (stmE (nodeS x,lev)):=by
 obtain⟨hn,-,hl,h1,h2,h3,h4,-,-,h5⟩:=nd_ok h;obtain⟨-,p2⟩:=prt_ok h5;refine stm_02 rfl (fun _=>hn) rfl (attrsE_02 (fun q hq=>?_) (asc_node x));have hq:q ∈ nodeA x:=hq;rw[nodeA_op] at hq;simp only[List.mem_append] at hq;rcases hq with((hq | hq) | hq) | hq
 ·rw[opA_mem hq];exact⟨.inr (by dsimp only;decide),okL_fmt (by omega) (by omega)⟩
 ·rw[opA_mem hq];exact⟨.inr (by dsimp only;decide),(lab_size hl).2⟩
 ·rw[opA_mem hq];exact⟨.inr (by dsimp only;decide),okL_ports fun q hq=>by
   obtain⟨k,hk,rfl⟩:=List.getElem_of_mem hq
   exact(p2 k hk).1⟩
 rw[opA_mem hq];exact⟨.inr (by dsimp only;decide),okL_fmt (by omega) (by omega)⟩
theorem end_ref {g:Gr}(hok:GrOk g){v p:Int}(h0:0<=v)(h1:v < g.N.length):refB (endT g.N v p)=true:=by
 have hi:v.toNat < g.N.length:=by omega
 have hnd:=nd_ok (hok.nd _ hi);obtain⟨-,p2⟩:=prt_ok hnd.2.2.2.2.2.2.2.2.2;unfold endT refB;rw[List.getElem?_eq_getElem hi];dsimp only;rw[hnd.1,Bool.true_and];split
 ·rfl
 ·cases h2:g.N[v.toNat].ports[p.toNat]? with
  | none=>rfl
  | some y =>
   obtain⟨hj,rfl⟩:=List.getElem?_eq_some_iff.1 h2;simp only[Option.map_some,Option.getD_some];rw[(p2 _ hj).1,Bool.or_true]
theorem edge_02 {g:Gr}(hok:GrOk g){x:Ed}(h:edE g.N x=0)(lev:Nat):Z2 (stmE (edgeS g.N x,lev)):=by
 obtain⟨a0,a1,b0,b1,-,-,-,-,hl,t0,t1,l0,l1⟩:=ed_ok h;refine stm_02 (p:=(edgeS g.N x,lev)) rfl (fun h=>?_) ?_ (attrsE_02 (fun q hq=>?_) (asc_edge x))
 ·have:(edgeS g.N x).kind=2:=rfl;rw[this] at h;omega
 ·show([endT g.N x.a x.ap,endT g.N x.b x.bp].all refB)=true;rw[List.all_cons,List.all_cons,end_ref hok a0 a1,end_ref hok b0 b1];rfl
 have hq:q ∈ edgeA x:=hq;rw[edgeA_op] at hq;simp only[List.mem_append] at hq;rcases hq with(hq | hq) | hq
 ·rw[opA_mem hq];exact⟨.inr (by dsimp only;decide),(lab_size hl).2⟩
 ·rw[opA_mem hq];exact⟨.inr (by dsimp only;decide),okL_fmt (by omega) (by omega)⟩
 rw[opA_mem hq];exact⟨.inr (by dsimp only;decide),okL_fmt (by omega) (by omega)⟩
theorem block_02 {g:Gr}(hok:GrOk g):∀ (f:Nat) (p:Int) (n k lev:Nat),∀ q ∈ flatL lev (blockT g f p n k).1,Z2 (stmE q)
 | 0,p,n,k,lev,q,hq=>by rw[blockT] at hq;dsimp only at hq;rw[flatL_nil] at hq;cases hq
 | f+1,p,n,k,lev,q,hq=>by
  rw[blockT] at hq;split at hq
  ·rename_i hr;have hk:=ready_lt hr;dsimp only at hq;rw[flatL_cons,flatS_mk] at hq;rcases List.mem_append.1 hq with hq | hq
   ·rcases List.mem_cons.1 hq with rfl | hq
    ·refine stm_02 rfl (fun _=>?_) rfl (.inl rfl);show nameB ((Option.map Prod.fst g.C[k]?).getD ⟨#[]⟩).data.toList=true;rw[List.getElem?_eq_getElem hk];exact(cl_ok (hok.cs k hk)).1
    exact block_02 hok f _ _ _ _ q hq
   exact block_02 hok f _ _ _ _ q hq
  ·split at hq
   ·dsimp only at hq;rw[flatL_nil] at hq;cases hq
   rename_i x hx;obtain⟨hn,rfl⟩:=List.getElem?_eq_some_iff.1 hx;split at hq
   ·dsimp only at hq;unfold nodeS at hq;rw[flatL_cons,flatS_mk,flatL_nil] at hq;rcases List.mem_append.1 hq with hq | hq
    ·rcases List.mem_cons.1 hq with rfl | hq
     ·exact node_02 (hok.nd n hn) lev
     cases hq
    exact block_02 hok f _ _ _ _ q hq
   dsimp only at hq;rw[flatL_nil] at hq;cases hq
theorem edges_02 {g:Gr}(hok:GrOk g):∀ (E:List Ed),(∀ x ∈ E,edE g.N x=0)->∀ q ∈ flatL 0 (E.map (edgeS g.N)),Z2 (stmE q)
 | [],_,q,hq=>by rw[List.map_nil,flatL_nil] at hq;cases hq
 | x::E,h,q,hq=>by
  rw[List.map_cons,flatL_cons] at hq;rcases List.mem_append.1 hq with hq | hq
  ·have e:=edge_02 hok (h x (by simp)) 0;unfold edgeS at hq e;rw[flatS_mk,flatL_nil] at hq;rw[List.mem_singleton.1 hq];exact e
  ·exact edges_02 hok E (fun y hy=>h y (by simp[hy])) q hq
def normO : Op5:=⟨0,10000,20000,5000,8⟩
theorem norm_opts : optsL normO=[]:=rfl
theorem norm_in : inR5 normO=true:=by decide
theorem valid_02 {g:Gr}(hok:GrOk g):Z2 (validE g.name (bodyT g normO)):=by
 unfold validE;rw[if_neg (by rw[hok.nm];decide)];split
 ·exact .inr rfl
 refine first_02 _ fun q hq=>?_
 unfold bodyT at hq;rw[norm_opts,List.nil_append,flatL_app] at hq;rcases List.mem_append.1 hq with hq | hq
 ·exact block_02 hok _ _ _ _ _ q hq
 exact edges_02 hok g.E hok.ed q hq
theorem tree_02 {g:Gr}(hg:grE g=0)(hc:(blkT g (-1) 0 0).2=(g.N.length,g.C.length)):treeT g normO=.error 2\/∃ B,treeT g normO=.ok B:=by
 unfold treeT;rw[if_neg (by rw[hg,norm_in];simp),hc,if_neg (by simp)];rcases valid_02 (gr_ok hg) with h | h
 ·rw[if_neg (by rw[h];simp)];exact .inr ⟨_,rfl⟩
 rw[h,if_pos (by decide)];exact .inl rfl
end Go.Proofs.YtjaeedbjknejdaaGreatDoor.Ex

namespace Go.Proofs.YtjaeedbjknejdaaGreatDoor.Lx
open Go.Lib Fx
def plainB (l:List UInt8):Bool:=l.all (fun b=>decide (32<=b.toNat/\b.toNat<=126))
def escB (b:UInt8):List UInt8:=if b=34\/b=92 then [92,b] else [b]
def escL (l:List UInt8):List UInt8:=l.flatMap escB
def quote (l:List UInt8):List UInt8 × Int :=
 if 32 < l.length then ([],2) else if !plainB l then ([],1) else (34::(escL l++[34]),0)
theorem escL_le : ∀ l:List UInt8,(escL l).length<=2 * l.length
 | []=>Nat.le_refl _
 | b::r=>by
  have ih:=escL_le r;have e:escL (b::r)=escB b++escL r:=rfl;have hb:(escB b).length<=2:=by unfold escB;split <;> simp
  rw[e,List.length_append,List.length_cons];omega
end Go.Proofs.YtjaeedbjknejdaaGreatDoor.Lx

namespace Go.Proofs.YtjaeedbjknejdaaGreatDoor.Tr
open Go.Lib Fx Lx
def valueT (s:ByteArray):List UInt8:=if nameB s.data.toList=true then s.data.toList else if(parse s.data.toList).2=0 then s.data.toList else (quote s.data.toList).1
def attrT (q:Two):List UInt8:=q.1.data.toList++61::valueT q.2
def sepT (sep:List UInt8):List (List UInt8)->List UInt8
 | []=>[]
 | [x]=>x
 | x::y::r=>x++sep++sepT sep (y::r)
def listedT (a:List Two):List UInt8:=91::(sepT [44,32] (a.map attrT)++[93])
def tailT (a:List Two):List UInt8:=if a.isEmpty=true then [59] else 32::(listedT a++[59])
def refT (r:Two):List UInt8:=r.1.data.toList++(if r.2.size=0 then [] else 58::r.2.data.toList)
def arrow (d:Bool):List UInt8:=if d then [32,45,62,32] else [32,45,45,32]
def indT (n:Nat):List UInt8:=List.replicate (4 * n) 32
mutual
def printS (d:Bool)(lev:Nat):Stm->List UInt8
 | .mk k n r a b =>
  if k=1 then indT lev++n.data.toList++tailT a++[10]
  else if k=2 then indT lev++sepT (arrow d) (r.map refT)++tailT a++[10]
  else if k=3 then indT lev++n.data.toList++[32]++listedT a++[59,10]
  else if k=4 then indT lev++[115,101,116,32]++n.data.toList++[32,61,32]++valueT (a.headD (⟨#[]⟩,⟨#[]⟩)).2++[59,10]
  else indT lev++[99,108,117,115,116,101,114,32]++n.data.toList++[32,123,10]++printL d (lev+1) b++indT lev++[125,10]
def printL (d:Bool)(lev:Nat):List Stm->List UInt8
 | []=>[]
 | x::r=>printS d lev x++printL d lev r
end
def printT (d:Bool)(name:ByteArray)(body:List Stm):List UInt8 :=
 (if d then [100,105,103,114,97,112,104,32] else [103,114,97,112,104,32])++name.data.toList++[32,123,10]++printL d 1 body++[125,10]
theorem printL_nil (d:Bool)(lev:Nat):printL d lev []=[]:=by rw[printL]
theorem printL_cons (d:Bool)(lev:Nat)(x:Stm)(r:List Stm):printL d lev (x::r)=printS d lev x++printL d lev r:=by rw[printL]
theorem printL_snoc (d:Bool)(lev:Nat)(x:Stm):∀ L:List Stm,printL d lev (L++[x])=printL d lev L++printS d lev x
 | []=>by rw[List.nil_append,printL_cons,printL_nil,List.append_nil,List.nil_append]
 | y::r=>by rw[List.cons_append,printL_cons,printL_cons,printL_snoc d lev x r,List.append_assoc]
end Go.Proofs.YtjaeedbjknejdaaGreatDoor.Tr

namespace Go.Proofs.YtjaeedbjknejdaaGreatDoor.Tr
open Go.Lib Fx Lx
def mk (m:List UInt8)(ln:Int):Tok:=⟨5,m,0,ln⟩
def nm (x:ByteArray)(ln:Int):Tok:=⟨1,x.data.toList,0,ln⟩
def okS (x:Stm):Prop:=formB x=true/\((x.kind=1\/x.kind=4\/x.kind=5)->nameB x.name.data.toList=true)/\x.refs.all refB=true/\(∀ q ∈ x.attrs,(x.kind ≠ 4->nameB q.1.data.toList=true)/\q.2.size<=32/\q.2.data.toList.all okT=true)
theorem attrsGo_ok (kind:Int):∀ (L D:List Two),attrsGo kind L D=0->∀ q ∈ L,(kind ≠ 4->nameB q.1.data.toList=true)/\q.2.size<=32/\q.2.data.toList.all okT=true
 | x::r,D,h,q,hq=>by
  rw[attrsGo] at h;split at h
  ·exact absurd h (by decide)
  ·rename_i h1;split at h
   ·exact absurd h (by decide)
   split at h
   ·exact absurd h (by decide)
   rename_i h3;split at h
   ·exact absurd h (by decide)
   rename_i h4;rcases List.mem_cons.1 hq with rfl | hq
   ·refine⟨fun hk=>?_,by omega,by simpa using h4⟩;cases hn:nameB q.1.data.toList
    ·exact absurd ⟨hk,hn⟩ h1
    rfl
   exact attrsGo_ok kind r _ h q hq
theorem okS_of (x:Stm)(lev:Nat)(h:stmE (x,lev)=0):okS x:=by
 unfold stmE at h;dsimp only at h;split at h
 ·exact absurd h (by decide)
 rename_i h1;split at h
 ·exact absurd h (by decide)
 split at h
 ·exact absurd h (by decide)
 rename_i h3;split at h
 ·exact absurd h (by decide)
 rename_i h4;refine⟨by simpa using h1,fun hk=>?_,by simpa using h4,?_⟩
 ·cases hn:nameB x.name.data.toList
  ·exact absurd ⟨hk,hn⟩ h3
  rfl
 unfold attrsE at h;split at h
 ·exact absurd h (by decide)
 exact attrsGo_ok x.kind x.attrs [] h
theorem firstE_zero : ∀ (l:List (Stm × Nat)),firstE l=0->∀ p ∈ l,stmE p=0
 | q::r,h,p,hp=>by
  rw[firstE] at h;by_cases hq:stmE q=0
  ·rw[if_neg (fun h'=>h' hq)] at h;rcases List.mem_cons.1 hp with rfl | hp
   ·exact hq
   exact firstE_zero r h p hp
  ·rw[if_pos hq] at h;exact absurd h hq
theorem valid_ok (name:ByteArray)(L:List Stm)(h:validE name L=0):nameB name.data.toList=true/\(flatL 0 L).length<=512/\(∀ p ∈ flatL 0 L,stmE p=0)/\AllL okS L:=by
 unfold validE at h;split at h
 ·exact absurd h (by decide)
 rename_i h1;split at h
 ·exact absurd h (by decide)
 rename_i h2;have h3:=firstE_zero _ h;exact⟨by simpa using h1,by omega,h3,allL_flat okS 0 L fun q hq=>okS_of q.1 q.2 (h3 q hq)⟩
end Go.Proofs.YtjaeedbjknejdaaGreatDoor.Tr

namespace Go.Proofs.YtjaeedbjknejdaaGreatDoor.Tr
open Go.Lib Fx Lx
def kNode : List UInt8:=[110,111,100,101]
def kEdge : List UInt8:=[101,100,103,101]
theorem empty_of (s:ByteArray)(h:s.size=0):s=⟨#[]⟩:=by
 apply ByteArray.ext;exact Array.eq_empty_of_size_eq_zero h
end Go.Proofs.YtjaeedbjknejdaaGreatDoor.Tr

namespace Go.Proofs.YtjaeedbjknejdaaGreatDoor.Tr
open Go.Lib Fx Lx
theorem form_parts (k:Int)(n:ByteArray)(r a:List Two)(b:List Stm)(h:formB (.mk k n r a b)=true):
  (k=1/\r=[]/\b=[])\/(k=2/\n=⟨#[]⟩/\b=[]/\2<=r.length)\/(k=3/\r=[]/\b=[]/\(n.data.toList=kNode\/n.data.toList=kEdge))\/(k=4/\r=[]/\b=[]/\∃ v,a=[(⟨#[]⟩,v)])\/(k=5/\r=[]/\a=[]):=by
 rw[formB_mk] at h;by_cases h1:k=1
 ·rw[if_pos h1] at h;simp only[Bool.and_eq_true,decide_eq_true_eq] at h;exact .inl ⟨h1,List.eq_nil_of_length_eq_zero h.1,List.eq_nil_of_length_eq_zero h.2⟩
 rw[if_neg h1] at h;by_cases h2:k=2
 ·rw[if_pos h2] at h;simp only[Bool.and_eq_true,decide_eq_true_eq] at h;exact .inr (.inl ⟨h2,empty_of n h.1.1,List.eq_nil_of_length_eq_zero h.1.2,h.2⟩)
 rw[if_neg h2] at h;by_cases h3:k=3
 ·rw[if_pos h3] at h;simp only[Bool.and_eq_true,Bool.or_eq_true,decide_eq_true_eq] at h;exact .inr (.inr (.inl ⟨h3,List.eq_nil_of_length_eq_zero h.1.1,List.eq_nil_of_length_eq_zero h.1.2,h.2⟩))
 rw[if_neg h3] at h;by_cases h4:k=4
 ·rw[if_pos h4] at h;simp only[Bool.and_eq_true,decide_eq_true_eq] at h;refine .inr (.inr (.inr (.inl ⟨h4,List.eq_nil_of_length_eq_zero h.1.1,List.eq_nil_of_length_eq_zero h.1.2,?_⟩)));have h5:=h.2;unfold setB at h5;split at h5
  ·rename_i q;obtain⟨x,v⟩:=q;have:x.size=0:=by simpa using h5
   exact⟨v,by rw[empty_of x this]⟩
  exact absurd h5 (by decide)
 rw[if_neg h4] at h;by_cases h5:k=5
 ·rw[if_pos h5] at h;simp only[Bool.and_eq_true,decide_eq_true_eq] at h;exact .inr (.inr (.inr (.inr ⟨h5,List.eq_nil_of_length_eq_zero h.1,List.eq_nil_of_length_eq_zero h.2⟩)))
 rw[if_neg h5] at h;exact absurd h (by decide)
end Go.Proofs.YtjaeedbjknejdaaGreatDoor.Tr
