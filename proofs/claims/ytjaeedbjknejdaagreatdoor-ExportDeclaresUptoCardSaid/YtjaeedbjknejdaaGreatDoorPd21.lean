/- Packed texts: NorBlk, NorNam, TreAll -/
import Derived.Test.YtjaeedbjknejdaaGreatDoorPd19
import Derived.Test.YtjaeedbjknejdaaGreatDoorPd20
set_option linter.unusedVariables false
set_option linter.unusedSimpArgs false
set_option maxHeartbeats 16000000
set_option maxRecDepth 100000
namespace Go.Proofs.YtjaeedbjknejdaaGreatDoor.Nm
open Go.RowKit Go.Sort Go.Lib Go.Shelf Fx Lx Tr At
theorem blkL_cons (p:Pl)(S:St)(x:Stm)(r:List Stm):blkL p S (x::r)=match blkS p S x with
  | .error e=>.error e
  | .ok (p,S)=>blkL p S r:=by rw[blkL];rcases blkS p S x with e | ⟨p',S'⟩ <;> rfl
theorem blkS_bad {p:Pl}{S:St}{k:Int}{n:ByteArray}{rs al:List Two}{b:List Stm}(h:chkS (.mk k n rs al b) ≠ 0):blkS p S (.mk k n rs al b)=.error (chkS (.mk k n rs al b)):=by rw[blkS,if_pos h]
theorem blkS_1 {p : Pl} {S : St} {n : ByteArray} {rs al : List Two} {b : List Stm} (h : chkS (.mk 1 n rs al b) = 0) : blkS p S (.mk 1 n rs al b) = match ment n p S with
      | .error e=>.error e
      | .ok (v,S)=>.ok (p,{ S with A:=S.A.set v (mrgT (S.A.getD v []++al)) }):=by rw[blkS,if_neg (by omega),if_pos rfl];rcases ment n p S with e | ⟨v,S'⟩ <;> rfl
theorem blkS_2 {p : Pl} {S : St} {n : ByteArray} {rs al : List Two} {b : List Stm} (h : chkS (.mk 2 n rs al b) = 0) : blkS p S (.mk 2 n rs al b) = match chainT (mrgT (p.e ++ al)) p rs none S with
      | .error e=>.error e
      | .ok S=>.ok (p,S):=by rw[blkS,if_neg (by omega),if_neg (by decide),if_pos rfl];cases chainT (mrgT (p.e++al)) p rs none S <;> rfl
theorem blkS_3 {p:Pl}{S:St}{n:ByteArray}{rs al:List Two}{b:List Stm}(h:chkS (.mk 3 n rs al b)=0):blkS p S (.mk 3 n rs al b)=if n.data.toList=nodeW then .ok ({ p with n:=mrgT (p.n++al) },S) else .ok ({ p with e:=mrgT (p.e++al) },S):=by rw[blkS,if_neg (by omega),if_neg (by decide),if_neg (by decide),if_pos rfl]
theorem blkS_4 {p:Pl}{S:St}{n:ByteArray}{rs al:List Two}{b:List Stm}(h:chkS (.mk 4 n rs al b)=0):blkS p S (.mk 4 n rs al b)=.ok (p,S):=by rw[blkS,if_neg (by omega),if_neg (by decide),if_neg (by decide),if_neg (by decide),if_neg (by decide)]
theorem blkS_5 {p : Pl} {S : St} {n : ByteArray} {rs al : List Two} {b : List Stm} (h : chkS (.mk 5 n rs al b) = 0) : blkS p S (.mk 5 n rs al b) = match clusT p S n b with
      | .error e=>.error e
      | .ok S=>.ok (p,S):=by
  rw[blkS,if_neg (by omega),if_neg (by decide),if_neg (by decide),if_neg (by decide),if_pos rfl];unfold clusT;split
  · rfl
  cases blkL { p with c:=S.C.length } { S with C:=S.C++[(n,p.c)] } b <;> rfl
theorem cntL_take (L:List Stm)(i:Nat)(h:i < L.length):cntL (L.take (i+1))=cntL (L.take i)+cntS L[i]:=by
 rw[List.take_succ_eq_append_getElem h]
 have key:∀ (M:List Stm) (x:Stm),cntL (M++[x])=cntL M+cntS x:=by
  intro M x
  induction M with
  | nil=>rw[List.nil_append,cntL_cons,cntL_nil];omega
  | cons y M ih=>rw[List.cons_append,cntL_cons,cntL_cons,ih];omega
 exact key _ _
theorem cntL_le (L:List Stm)(i:Nat):cntL (L.take i)<=cntL L:=by
 have key:∀ M N:List Stm,cntL (M++N)=cntL M+cntL N:=by
  intro M N
  induction M with
  | nil=>rw[List.nil_append,cntL_nil];omega
  | cons y M ih=>rw[List.cons_append,cntL_cons,cntL_cons,ih];omega
 have:=key (L.take i) (L.drop i);rw[List.take_append_drop] at this;omega
theorem cntL_len : ∀ L:List Stm,L.length<=cntL L
 | []=>by simp
 | x::r=>by have:=cntL_len r;rw[cntL_cons,List.length_cons,cntS_body];omega
theorem row_some {w:World}{B:Nat}{T:TypeId}{sz:Nat}{v:Value}{n:Nat}{xs:List Value}(h:w.ownsRow B T sz v n xs)(h0:0 < n):∃ g c,v=.slice (some ⟨g,0,none⟩) n c/\n<=c/\c<=maxLen/\∃ cs,w.heap[g]? = some (.cells cs T (0,0)):=by
 rcases h.2 with⟨_,rfl⟩ | ⟨g,cap,cur,rfl,_,hg,h1,h2,_⟩
 ·exact absurd h0 (by omega)
 exact⟨g,cap,rfl,h1,h2,cur,hg⟩
theorem okWL_at : ∀ (L:List Stm) (i:Nat) (h:i < L.length),okWL L->okWS L[i]
 | [],i,h,_=>absurd h (by simp)
 | x::r,0,_,ho=>by rw[okWL_cons] at ho;exact ho.1
 | x::r,i+1,h,ho=>by rw[okWL_cons] at ho;exact okWL_at r i (by simpa using h) ho.2
end Go.Proofs.YtjaeedbjknejdaaGreatDoor.Nm

namespace Go.Proofs.YtjaeedbjknejdaaGreatDoor.Nm
open Go.Lib Fx Lx Tr At
def addN (out:List ByteArray)(n:ByteArray):List ByteArray:=if out.any (fun q=>decide (q=n))=true then out else out++[n]
def nmS (out:List ByteArray)(p:Stm × Nat):List ByteArray:=p.1.refs.foldl (fun o r=>addN o r.1) (if p.1.kind=1 then addN out p.1.name else out)
def namesT (body:List Stm):List ByteArray:=(flatL 0 body).foldl nmS []
def clusG (l:List (Stm × Nat)):List ByteArray:=(l.filter fun p=>decide (p.1.kind=5)).map fun p=>p.1.name
theorem idx_names (n:ByteArray):∀ (L:List (ByteArray × Int)) (k:Nat),(idxGo n k L).isSome=(L.map Prod.fst).any (fun q=>decide (q=n))
 | [],k=>rfl
 | q::r,k=>by
  unfold idxGo;by_cases h:q.1=n
  ·rw[if_pos h,List.map_cons,List.any_cons,decide_eq_true h];rfl
  ·rw[if_neg h,List.map_cons,List.any_cons,decide_eq_false h,Bool.false_or,idx_names n r (k+1)]
theorem ment_names {n:ByteArray}{p:Pl}{S S':St}{v:Nat}(h:ment n p S=.ok (v,S')):S'.N.map Prod.fst=addN (S.N.map Prod.fst) n/\S'.C=S.C:=by
 unfold ment at h;split at h
 ·cases h
 have hi:=idx_names n S.N 0;unfold addN;split at h
 ·rename_i u hu;injection h with h;injection h with h1 h2;subst h2;rw[<-hi,show idxGo n 0 S.N=some u from hu];exact⟨rfl,rfl⟩
 rename_i hu;injection h with h;injection h with h1 h2;subst h2;rw[<-hi,show idxGo n 0 S.N=none from hu];exact⟨by simp,rfl⟩
theorem chain_names {own:List Two}{p:Pl}:∀ (rs:List Two) (last:Option (Nat × ByteArray)) (S S':St),chainT own p rs last S=.ok S'->S'.N.map Prod.fst=rs.foldl (fun o r=>addN o r.1) (S.N.map Prod.fst)/\S'.C=S.C
 | [],last,S,S',h=>by unfold chainT at h;injection h with h;subst h;exact⟨rfl,rfl⟩
 | r::rs,last,S,S',h=>by
  unfold chainT at h;split at h
  ·cases h
  ·rename_i v S2 hm;obtain⟨h1,h2⟩:=ment_names hm;have ih:=chain_names rs _ _ S' h;rw[List.foldl_cons,<- h1,<- h2];cases last with
   | none=>exact ih
   | some l=>exact ih
theorem form_parts (x:Stm)(h:formB x=true):(x.kind ≠ 2->x.refs=[])/\(x.kind ≠ 5->x.body=[]):=by
 unfold formB at h;refine⟨fun h2=>?_,fun h5=>?_⟩
 ·by_cases h1:x.kind=1
  ·rw[if_pos h1] at h;simp only[Bool.and_eq_true,List.isEmpty_iff] at h;exact h.1
  rw[if_neg h1,if_neg h2] at h;by_cases h3:x.kind=3
  ·rw[if_pos h3] at h;simp only[Bool.and_eq_true,List.isEmpty_iff] at h;exact h.1.1
  rw[if_neg h3] at h;by_cases h4:x.kind=4
  ·rw[if_pos h4] at h;simp only[Bool.and_eq_true,List.isEmpty_iff] at h;exact h.1.1
  rw[if_neg h4] at h;by_cases h6:x.kind=5
  ·rw[if_pos h6] at h;simp only[Bool.and_eq_true,List.isEmpty_iff] at h;exact h.1
  rw[if_neg h6] at h;cases h
 by_cases h1:x.kind=1
 ·rw[if_pos h1] at h;simp only[Bool.and_eq_true,List.isEmpty_iff] at h;exact h.2
 rw[if_neg h1] at h;by_cases h2:x.kind=2
 ·rw[if_pos h2] at h;simp only[Bool.and_eq_true,List.isEmpty_iff] at h;exact h.1.2
 rw[if_neg h2] at h;by_cases h3:x.kind=3
 ·rw[if_pos h3] at h;simp only[Bool.and_eq_true,List.isEmpty_iff] at h;exact h.1.2
 rw[if_neg h3] at h;by_cases h4:x.kind=4
 ·rw[if_pos h4] at h;simp only[Bool.and_eq_true,List.isEmpty_iff] at h;exact h.1.2
 rw[if_neg h4,if_neg h5] at h;cases h
mutual
theorem stm_names : ∀ (x:Stm) (lev:Nat) (p p':Pl) (S S':St),okWS x->blkS p S x=.ok (p',S')->S'.N.map Prod.fst=(flatS lev x).foldl nmS (S.N.map Prod.fst)/\S'.C.map Prod.fst=S.C.map Prod.fst++clusG (flatS lev x)
 | .mk kd n rs al b,lev,p,p',S,S',ho,he=>by
  rw[okWS] at ho;obtain⟨⟨-,-,-,-,-,hf⟩,hb⟩:=ho;obtain⟨hr,hbe⟩:=form_parts _ hf;simp only[Stm.kind,Stm.refs,Stm.body] at hr hbe;rw[flatS,List.foldl_cons];unfold clusG;rw[List.filter_cons];unfold blkS at he;split at he
  ·cases he
  split at he
  ·rename_i h1;subst h1;rw[hbe (by decide),hr (by decide),flatL_nil];split at he
   ·cases he
   rename_i v S2 hm;injection he with he;injection he with h1 h2;subst h2;obtain⟨g1,g2⟩:=ment_names hm;refine⟨by rw[show nmS (S.N.map Prod.fst) ((Stm.mk 1 n [] al []),lev)=addN (S.N.map Prod.fst) n from rfl];exact g1,?_⟩;show S2.C.map Prod.fst=_;rw[g2];simp[Stm.kind]
  split at he
  ·rename_i h2;subst h2;rw[hbe (by decide),flatL_nil];split at he
   ·cases he
   rename_i S2 hm;injection he with he;injection he with h1 h2;subst h2;obtain⟨g1,g2⟩:=chain_names rs none S S2 hm;refine⟨by rw[show nmS (S.N.map Prod.fst) ((Stm.mk 2 n rs al []),lev)=rs.foldl (fun o r=>addN o r.1) (S.N.map Prod.fst) from rfl];exact g1,?_⟩;rw[g2];simp[Stm.kind]
  split at he
  ·rename_i h3;subst h3;rw[hbe (by decide),hr (by decide),flatL_nil];have hs:S'=S:=by split at he <;> (injection he with he;injection he with h1 h2;exact h2.symm)
   subst hs;exact⟨rfl,by simp[Stm.kind]⟩
  split at he
  ·rename_i h5;subst h5;rw[hr (by decide)];split at he
   ·cases he
   split at he
   ·cases he
   rename_i S2 hm;injection he with he;injection he with h1 h2;subst h2;obtain⟨g1,g2⟩:=stms_names b (lev+1) _ _ _ hb hm;rw[show(if(5:Int)=5 then lev+1 else lev)=lev+1 from rfl];refine⟨g1,?_⟩;rw[g2];simp[Stm.kind,Stm.name,clusG]
  ·rename_i e1 e2 e3 e5
   have h4:kd=4:=by
    have:=(form_kinds _ hf).1;simp only[Stm.kind] at this;omega
   subst h4;rw[hbe (by decide),hr (by decide),flatL_nil];injection he with he;injection he with h1 h2;subst h2;exact⟨rfl,by simp[Stm.kind]⟩
theorem stms_names : ∀ (L:List Stm) (lev:Nat) (p:Pl) (S S':St),okWL L->blkL p S L=.ok S'->S'.N.map Prod.fst=(flatL lev L).foldl nmS (S.N.map Prod.fst)/\S'.C.map Prod.fst=S.C.map Prod.fst++clusG (flatL lev L)
 | [],lev,p,S,S',_,he=>by
  unfold blkL at he;injection he with he;subst he;rw[flatL_nil];exact⟨rfl,by simp[clusG]⟩
 | x::r,lev,p,S,S',ho,he=>by
  rw[okWL] at ho;unfold blkL at he;split at he
  ·cases he
  ·rename_i p2 S2 hm;obtain⟨g1,g2⟩:=stm_names x lev p p2 S S2 ho.1 hm;obtain⟨k1,k2⟩:=stms_names r lev p2 S2 S' ho.2 he;rw[flatL_cons,List.foldl_append,<- g1];refine⟨k1,?_⟩;rw[k2,g2];simp[clusG]
end
theorem finNs_names : ∀ (N:List (ByteArray × Int)) (A:List (List Two)),A.length=N.length->(finNs N A).map Nd.name=N.map Prod.fst
 | [],[],_=>rfl
 | [],_::_,h=>by simp at h
 | _::_,[],h=>by simp at h
 | q::r,l::s,h=>by
  unfold finNs;rw[List.map_cons,List.map_cons,finNs_names r s (by simpa using h)]
  rfl
theorem build_names {nm:ByteArray}{dir:Bool}{body:List Stm}{g:Gr}(hw:okWL body)(h:buildT nm dir body=.ok g):g.N.map Nd.name=namesT body/\g.C.map Prod.fst=clusG (flatL 0 body)/\g.name=nm/\g.dir=dir/\grE g=0/\validE nm body=0:=by
 unfold buildT at h;split at h
 ·cases h
 rename_i hv;have hv:validE nm body=0:=Classical.not_not.1 hv;split at h
 ·cases h
 rename_i S hS;split at h
 ·cases h
 rename_i E hE;split at h
 ·cases h
 rename_i hg;injection h with h;subst h;obtain⟨g1,g2⟩:=stms_names body 0 _ _ _ hw hS;have hsm:=Sml.stms body 0 _ _ _ hw Sml.nil ⟨by decide,by decide,SmA.nil _,SmA.nil _⟩ hS;refine⟨?_,?_,rfl,rfl,Classical.not_not.1 hg,hv⟩
 ·rw[finNs_names _ _ hsm.a];exact g1
 simpa using g2
end Go.Proofs.YtjaeedbjknejdaaGreatDoor.Nm

namespace Go.Proofs.YtjaeedbjknejdaaGreatDoor.Tr
open Go.Lib Fx Lx
mutual
def AllS (p:Stm->Prop):Stm->Prop
 | .mk k n r a b=>p (.mk k n r a b)/\AllL p b
def AllL (p:Stm->Prop):List Stm->Prop
 | []=>True
 | x::r=>AllS p x/\AllL p r
end
mutual
theorem allS_flat (p:Stm->Prop)(lev:Nat):∀ x:Stm,(∀ q ∈ flatS lev x,p q.1)->AllS p x
 | .mk k n r a b,h=>by
  rw[flatS] at h;rw[AllS];exact⟨h _ List.mem_cons_self,allL_flat p _ b fun q hq=>h q (List.mem_cons_of_mem _ hq)⟩
theorem allL_flat (p:Stm->Prop)(lev:Nat):∀ L:List Stm,(∀ q ∈ flatL lev L,p q.1)->AllL p L
 | [],_=>by rw[AllL];trivial
 | x::r,h=>by
  rw[flatL] at h;rw[AllL];exact⟨allS_flat p lev x fun q hq=>h q (List.mem_append_left _ hq),allL_flat p lev r fun q hq=>h q (List.mem_append_right _ hq)⟩
end
end Go.Proofs.YtjaeedbjknejdaaGreatDoor.Tr
