/- Packed texts: NorEdgD -/
import Derived.Test.YtjaeedbjknejdaaGreatDoorPd42
set_option linter.unusedVariables false
set_option linter.unusedSimpArgs false
set_option maxHeartbeats 16000000
set_option maxRecDepth 100000
namespace Go.Proofs.YtjaeedbjknejdaaGreatDoor.Nm
open Go.RowKit Go.Sort Go.Lib Go.Shelf Fx Lx Tr At
def intsV (l:List Nat):List Value:=l.map fun v:Nat=>.int .i64 (v:Int)
theorem intsV_snoc (l:List Nat)(v:Nat):intsV (l++[v])=intsV l++[.int .i64 v]:=by unfold intsV;simp
theorem info_int : (Tryz.prog.info? 3).map (fun i=>(i.zero,i.size,i.bytes))=some (some (.int .i64 0),1,8):=by kernel_rfl
structure EdA (w0:World)(bb B:Nat)(nm:ByteArray)(dir:Bool)(w:World)(b1 gs gp:Nat)(sx px:Array Value)(RM:Except Int (List Nat × St))(p:Pl)(rs:List Two)(m k:Nat)(i:Nat)(l:List Nat)(ov:Value)(S:St)(E:Int)(wr:World):Prop where
 d:DocE w0 bb B nm dir wr S E
 r:MenR RM p rs i l S E
 s:Sml (m+i) k S
 own:wr.ownsRow b1 3 1 ov i (intsV l)
 len:l.length=i
 sb:wr.heap[gs]? = some (.cells sx 67 (0,0))
 pb:wr.heap[gp]? = some (.cells px 98 (0,0))
 kb:KeepD w wr
structure EdB (w0:World)(bb B:Nat)(nm:ByteArray)(dir:Bool)(w:World)(b1 gs gp:Nat)(sx px:Array Value)(T:List Lk)(own':List Two)(rs:List Two)(l:List Nat)(ov:Value)(N:Nat)(i:Nat)(S:St)(K:List Lk)(wr:World):Prop where
 d:DocE w0 bb B nm dir wr { S with K:=K } 0
 r:LnkR T K own' rs l i
 kl:K.length<=S.K.length+i
 own:wr.ownsRow b1 3 1 ov N (intsV l)
 sb:wr.heap[gs]? = some (.cells sx 67 (0,0))
 pb:wr.heap[gp]? = some (.cells px 98 (0,0))
 kb:KeepD w wr
theorem Doc.grownT {w0 w w2:World}{bb B:Nat}{nm:ByteArray}{dir:Bool}{nv av cv lv:Value}{aw:List Value}{ks:List (Lk × Value)}{S:St}{E:Int}(h:Doc w0 bb B nm dir w nv av cv lv aw ks S E){row:Option Nat}{T:TypeId}(hg:w.grownBy w2 row)(ht:TyOf w row (some T))(hr:∀ k,row=some k->w0.heap.size<=k)
  (h1:T ≠ 95) (h2:T ≠ 59) (h3:T ≠ 65) (h4:T ≠ 63) (h5:T ≠ 164) (h6:T ≠ 69):Doc w0 bb B nm dir w2 nv av cv lv aw ks S E :=
 ⟨cel_keep h.blk hg ht (nope h1.symm),row_keep h.N hg ht (nope h2.symm),row_keep h.A hg ht (nope h3.symm),row_keep h.C hg ht (nope h4.symm),row_keep h.K hg ht (nope h5.symm),h.At.keep hg ht (nope h6.symm),h.Kl,h.Kt.keep hg ht (nope h6.symm),ext_grown h.X hg hr,Nat.le_trans h.Z hg.size,h.lo⟩
theorem KeepD.new {a b c:World}(h:KeepD a b){row:Option Nat}(hg:b.grownBy c row)(hr:∀ k,row=some k->a.heap.size<=k):KeepD a c :=
 ⟨Nat.le_trans h.size hg.size,fun k cs E fl e h1 h2 h3 h4 h5=>by
  have hk:=(Array.getElem?_eq_some_iff.1 e).1;have e2:=h.blk k cs E fl e h1 h2 h3 h4 h5
  exact(hg.block k (Array.getElem?_eq_some_iff.1 e2).1 (fun e3=>by have:=hr k e3.symm;omega)).trans e2⟩
theorem EdA.next {w0:World}{bb B:Nat}{nm:ByteArray}{dir:Bool}{w:World}{b1 gs gp:Nat}{sx px:Array Value}{RM:Except Int (List Nat × St)}{p:Pl}{rs:List Two}{m k i:Nat}{l:List Nat}{ov ov7:Value}{S S5:St}{E E5:Int}{wr w5 w6 w7:World}{v:Nat}
  (h:EdA w0 bb B nm dir w b1 gs gp sx px RM p rs m k i l ov S E wr) (d5:DocE w0 bb B nm dir w5 S5 E5) (k5:KeepD wr w5) (x6:Ext w5 w6) (o6:w6.ownsRow b1 3 1 ov i (intsV l)) (hg:w6.grownBy w7 ov.ownBlock) (o7:w7.ownsRow b1 3 1 ov7 (i+1) (intsV l++[.int .i64 v]))
  (hb:w.heap.size<=b1) (h0:w0.heap.size<=w.heap.size) (hr:MenR RM p rs (i+1) (l++[v]) S5 E5) (hs:Sml (m+i+1) k S5):EdA w0 bb B nm dir w b1 gs gp sx px RM p rs m k (i+1) (l++[v]) ov7 S5 E5 w7:=by
 have ht:=row_ty o6;have hrow:∀ k,ov.ownBlock=some k->b1<=k:=fun k e=>(o6.lt k e).1
 refine⟨?_,hr,hs,by rw[intsV_snoc];exact o7,by simp[h.len],?_,?_,((h.kb.trans k5).ext x6).new hg (fun k e=>Nat.le_trans hb (hrow k e))⟩
 ·obtain⟨_,_,_,_,_,_,d⟩:=d5;exact⟨_,_,_,_,_,_,(d.ext x6).grownT hg ht (fun k e=>Nat.le_trans (Nat.le_trans h0 hb) (hrow k e)) (by decide) (by decide) (by decide) (by decide) (by decide) (by decide)⟩
 ·exact cel_keep (At.heap_ext (k5.blk _ _ _ _ h.sb (by decide) (by decide) (by decide) (by decide) (by decide)) x6) hg ht (nope (by decide))
 exact cel_keep (At.heap_ext (k5.blk _ _ _ _ h.pb (by decide) (by decide) (by decide) (by decide) (by decide)) x6) hg ht (nope (by decide))
theorem ow_ints {w:World}{B g n c j:Nat}{xs:List Value}{u:Value}(h:w.ownsRow B 3 1 (.slice (some ⟨g,0,none⟩) n c) n xs)(hj:xs[j]? = some u):w.cell? ⟨g,j,none⟩=some u:=by
 have:=h.cells (g:=g) rfl j u hj;rw[add0] at this;exact this
theorem edgesD_any (w0:World)(bb B nn k:Nat)(nm':ByteArray)(dir:Bool)(nm:ByteArray)(rs al:List Two)(p:Pl)(pn pe:Value)(S:St)(r a b:Option Addr)(N Bn rc ac bc:Nat)(w:World)(hb:DocE w0 bb B nm' dir w S 0)(hpn:AtL w pn p.n)(hpe:AtL w pe p.e)
    (hN:N=rs.length) (hr:TwoAt nn w0 r rs) (ha:TwoAt nn w0 a al) (hnn:nn<=w0.heap.size) (hs:Sml (1048576 * k) k S) (hp:SmP k p) (hk:k<=512) (hrs:∀ q ∈ rs,q.1.size<=64/\q.2.size<=64) (hrl:rs.length<=1048576) (hal:∀ q ∈ al,q.1.size<=64/\q.2.size<=64) (hll:al.length<=20) :
    Calls Tryz.prog 90 #[.pointer (some ⟨bb,0,none⟩),.agg #[.int .i64 2,.string nm,.slice r N rc,.slice a al.length ac,.slice b Bn bc],.agg #[.int .i64 p.c,pn,pe]] w fun e w'=>e=.returned (.tuple #[])/\DocS w0 bb B nm' dir w' (chainT (mrgT (p.e++al)) p rs none S)/\KeepD w w':=by
  obtain⟨own,ho⟩:∃ o,o=mrgT (p.e++al):=⟨_,rfl⟩;obtain⟨RM,hRM⟩:∃ R,R=menL p rs S:=⟨_,rfl⟩;have hC1:∀ e,RM=.error e->chainT own p rs none S=.error e:=fun e h=>chain_err (by rw[<-hRM];exact h)
  have hC2:∀ l S',RM=.ok (l,S')->chainT own p rs none S=.ok { S' with K:=S'.K++lnkL own none rs l }/\l.length=rs.length/\S'.K=S.K:=fun l S' h=>⟨chain_edges (by rw[<-hRM];exact h),menL_len rs S S' l (by rw[<-hRM];exact h),menL_K rs S S' l (by rw[<-hRM];exact h)⟩
  obtain⟨R,hR⟩:∃ R,R=chainT own p rs none S:=⟨_,rfl⟩;have hM0:MenR RM p rs 0 [] S 0:=by rw[hRM];exact MenR.start p rs S
  rw[<-ho];rw[<-hR] at hC1 hC2 ⊢;have hx0:Ext w0 w:=hb.X;obtain⟨pep,pec,rfl,hei,hez⟩:=hpe;have hmg:=fun(w5:World) (h5:AtrIn w5 pep p.e) (x:Ext w0 w5)=>mrgR_any pep a p.e al pec ac w5 h5 (two_atr (TwoAt.below ha (x.mono hnn))) (by have:=hp.2.2.2.1;omega) (by omega)
  rw[<-ho] at hmg;obtain⟨A,hA⟩:∃ A,A=al.length:=⟨_,rfl⟩;obtain⟨PE,hPE⟩:∃ A,A=p.e.length:=⟨_,rfl⟩;have HPE:=hid (show AtL w (.slice pep PE pec) p.e from⟨pep,pec,by rw[hPE],hei,hez⟩);rw[<-hA,<- hPE] at hmg;rw[<-hA,<- hPE];have HMG:=hid hmg;have HB:=hid hb;have HPN:=hid hpn;have HTR:=hid hr;have HS:=hid hs;have HP:=hid hp;have HRS:=hid hrs;have HX0:=hid hx0;have HNL:=hid hN;have HNN:=hid hnn;have HC1:=hid hC1;have HC2:=hid hC2;rw[<-hN] at hrl;obtain⟨j0,hj,hjz0,hjz1,hjz2⟩:=info_parts info_int
  have hA0:Hid (EdA w0 bb B nm' dir w (w.heap.size+2) w.heap.size (w.heap.size+1) #[.int .i64 2,.string nm,.slice r N rc,.slice a A ac,.slice b Bn bc] #[.int .i64 p.c,pn,.slice pep PE pec] RM p rs (1048576 * k) k 0 [] (.slice none 0 0) S 0 ((w.alloc (.cells #[.int .i64 2,.string nm,.slice r N rc,.slice a A ac,.slice b Bn bc] 67)).alloc (.cells #[.int .i64 p.c,pn,.slice pep PE pec] 98))):=hid (by
    have x2:Ext w ((w.alloc (.cells #[.int .i64 2,.string nm,.slice r N rc,.slice a A ac,.slice b Bn bc] 67)).alloc (.cells #[.int .i64 p.c,pn,.slice pep PE pec] 98)):=((Ext.refl _).alloc _).alloc _;refine⟨hb.ext x2,hM0,hs,by rw[show intsV []=[] from rfl];exact World.ownsRow_nil _ _ _ _,rfl,?_,?_,KeepD.of x2⟩
    · exact At.heap_ext (heap_alloc_new w _) ((Ext.refl _).alloc _)
    have h:=heap_alloc_new (w.alloc (.cells #[.int .i64 2,.string nm,.slice r N rc,.slice a A ac,.slice b Bn bc] 67)) (.cells #[.int .i64 p.c,pn,.slice pep PE pec] 98);rw[World.size_alloc] at h
    exact h)
  clear hmg hb hpn hr ha hs hp hrs hx0 hal hll hA hPE hei hez ho hN hnn hM0 hC1 hC2 hRM hR;go_enter Tryz.func90,Tryz.ntmps90;go_wp2_with fail;obtain⟨gs,hgs⟩:∃ g,g=w.heap.size:=⟨_,rfl⟩;obtain⟨gp,hgp⟩:∃ g,g=w.heap.size+1:=⟨_,rfl⟩;obtain⟨b1,hb1⟩:∃ g,g=w.heap.size+2:=⟨_,rfl⟩;have HG:=hid (show w.heap.size<=gs/\gp=gs+1/\b1=gs+2 by omega);rw[<-hgp,<- hb1,<- hgs] at hA0;rw[<-hgp,<- hgs];clear hgs hgp hb1
  go_loopw [6,7] (fun ov i' wr=>∃ (i:Nat) (l:List Nat) (oa:Option Addr) (oc:Nat) (S':St) (E:Int),i<=N/\i'=.int .i64 i/\ov=.slice oa i oc/\Hid (EdA w0 bb B nm' dir w b1 gs gp #[.int .i64 2,.string nm,.slice r N rc,.slice a A ac,.slice b Bn bc] #[.int .i64 p.c,pn,.slice pep PE pec] RM p rs (1048576 * k) k i l (.slice oa i oc) S' E wr)) (fun _ i' _=>N - (RowKit.intOf i').toNat)
  case atStart=>exact⟨0,[],none,0,S,0,Nat.zero_le _,rfl,rfl,hA0⟩
  clear hA0;obtain⟨i,l,oa,oc,S',E,hi,rfl,rfl,hC⟩:=hrel;have hx:=hC.out.d.X;have s2:wr.cell? ⟨gs,2,none⟩=some (.slice r N rc):=by rw[Lib.cell_of_heap hC.out.sb];rfl
  obtain⟨nv,av,cv,lv,aw,ks,hD⟩:=hC.out.d;have d7:=hD.cells.2.2.2.2.2.2;have HD:=hid hD;clear hD;by_cases hlt:i < N
  · by_cases hE:E=0
    · subst hE;obtain⟨f1,f2⟩:=efacts 0;have hkl:i < rs.length:=by rw[<-HNL.out];exact hlt
      obtain⟨g,o,rfl,-,c0,-⟩:=(TwoAt.below HTR.out (hx.mono HNN.out)) i hkl;obtain⟨hs1,-⟩:=HRS.out _ (List.getElem_mem hkl);have hst:=hC.out.r.step hkl;have hsm:=hC.out.s.mentS HP.out hs1;have p0:wr.cell? ⟨gp,0,none⟩=some (.int .i64 p.c):=by rw[Lib.cell_of_heap hC.out.pb];rfl
      have p1:wr.cell? ⟨gp,1,none⟩=some pn:=by rw[Lib.cell_of_heap hC.out.pb];rfl
      have p2:wr.cell? ⟨gp,2,none⟩=some (.slice pep PE pec):=by rw[Lib.cell_of_heap hC.out.pb];rfl
      obtain⟨n,hn⟩:∃ q,q=rs[i].1:=⟨_,rfl⟩;have hnl:=hC.out.s.n;have hnal:=hC.out.s.a;have hncl:=hC.out.s.c;have hmc:=fun w5 (x:Ext wr w5)=>mentD_any w0 bb B nm' dir nv av cv lv aw ks n p pn (.slice pep PE pec) S' 0 w5 (HD.out.ext x) ((hC.out.kb.atL HPN.out).ext x) (by omega) (by omega) (by omega)
      rw[<-hn] at c0 hst hsm;obtain⟨v,hv⟩:∃ v,v=mentS n p S':=⟨_,rfl⟩;obtain⟨er,her⟩:∃ v,v=mentE n S' 0:=⟨_,rfl⟩;rw[<-hv] at hst hsm;rw[<-her] at hst;simp only[<-hv,<- her] at hmc;have HMC:=hid hmc;have HST:=hid hst;have HSM:=hid hsm;have b0:(0:Int)<=(i:Int):=by omega
      have b1':(i:Int) < (N:Int):=by omega
      clear hmc hst hsm hn hv her hs1 hnl hnal hncl hx;go_wp2_with fail
      go_region_law (first
        | (go_simp;go_at_call 88;refine Calls.mono (by with_reducible exact HMC.out _ (by first | exact(Ext.refl _).drew | exact Ext.refl _)) ?_;rintro e w5 ⟨rfl,⟨nv5,av5,cv5,lv5,aw5,ks5,hd5⟩,k5⟩;have HD5:=hid hd5;have K5:Hid (KeepD wr w5):=hid (by first | exact k5 | exact(KeepD.of (Ext.refl _).drew).trans k5);have OW5:=hid (K5.out.own hC.out.own (by decide) (by decide) (by decide) (by decide) (by decide));clear hd5 k5)
        | (refine step_append_lies _ (by rfl) _ _ 48 (by rfl) b1 3 j0 _ 1 8 Tryz.underlying48 hj hjz0 hjz1 hjz2 rfl (by decide) _ _ _ (by rfl) (OW5.out.alloc _) ⟨w5.heap.size, 0, none⟩ 1 1 [.int .i64 v.1] (by rfl) (by rfl) (World.news_of_block (cs := #[.int .i64 v.1]) (t := 3) (fr := (0, 0)) (heap_alloc_new w5 _)) (by simp [Value.oneCell']) (by omega) (by unfold maxLen; omega) (by omega) (by have h1 := HG.out; have h2 := hC.out.kb.size; have h3 := K5.out.size; have h4 := (Array.getElem?_eq_some_iff.1 hC.out.pb).1; simp; omega) _ rfl ?_
           intro g7 c7 w7 hown1 hgrow hat2 hlt2; have NX := hid (hC.out.next (v := v.1) ⟨_, _, _, _, _, _, HD5.out⟩ K5.out ((Ext.refl w5).alloc (.cells #[.int .i64 v.1] 3)) (OW5.out.alloc _) hgrow hown1 (by have := HG.out; omega) HX0.out.size HST.out HSM.out.1)
           clear hown1 hgrow hat2 hlt2))
      all_goals go_wp2
      all_goals go_roundw
      all_goals first
        | exact⟨i+1,_,_,_,_,_,by omega,by go_num,rfl,NX⟩
        | (simp[RowKit.intOf];omega)
        | trace_state
    obtain⟨f1,f2⟩:=nfacts hE;have hr:Hid (R=.error E):=hid (HC1.out E (hC.out.r.2 hE));go_wp2_with fail
    go_loopw [8] (fun i' wr'=>i'=.int .i64 1/\wr'=wr) (fun i' _=>0)
    case atStart=>exact⟨rfl,rfl⟩
    obtain⟨rfl,rfl⟩:=hrel;by_cases h1:1 < i
    · have g1:(1:Int) < (i:Int):=by omega
      go_wp2;go_returns;rw[hr.out];exact⟨rfl,⟨hE,_,_,_,_,_,_,_,HD.out⟩,hC.out.kb⟩
    have g1:¬ (1:Int) < (i:Int):=by omega
    go_wp2;go_returns;rw[hr.out];exact⟨rfl,⟨hE,_,_,_,_,_,_,_,HD.out⟩,hC.out.kb⟩
  by_cases hE:E=0
  case neg =>
      obtain⟨f1,f2⟩:=nfacts hE;have hr:Hid (R=.error E):=hid (HC1.out E (hC.out.r.2 hE));go_wp2_with fail
      go_loopw [8] (fun i' wr'=>i'=.int .i64 1/\wr'=wr) (fun i' _=>0)
      case atStart=>exact⟨rfl,rfl⟩
      obtain⟨rfl,rfl⟩:=hrel;by_cases h1:1 < i
      · have g1:(1:Int) < (i:Int):=by omega
        go_wp2;go_returns;rw[hr.out];exact⟨rfl,⟨hE,_,_,_,_,_,_,_,HD.out⟩,hC.out.kb⟩
      have g1:¬ (1:Int) < (i:Int):=by omega
      go_wp2;go_returns;rw[hr.out];exact⟨rfl,⟨hE,_,_,_,_,_,_,_,HD.out⟩,hC.out.kb⟩
  subst hE;obtain⟨f1,f2⟩:=efacts 0;have hiN:i=N:=by omega
  subst hiN;have hdn:=hC.out.r;rw[HNL.out] at hdn;obtain⟨hr1,hll,hKK⟩:=HC2.out l S' hdn.done;obtain⟨T,hT⟩:∃ T,T=S'.K++lnkL own none rs l:=⟨_,rfl⟩;rw[<-hT] at hr1;have HR:=hid hr1;have hB0:Hid (EdB w0 bb B nm' dir w b1 gs gp #[.int .i64 2,.string nm,.slice r i rc,.slice a A ac,.slice b Bn bc] #[.int .i64 p.c,pn,.slice pep PE pec] T own rs l (.slice oa i oc) i 1 S' S'.K wr):=hid ⟨⟨_,_,_,_,_,_,HD.out⟩,by rw[hT];exact LnkR.start S'.K own rs l hll,by omega,hC.out.own,hC.out.sb,hC.out.pb,hC.out.kb⟩;have hSK:S'.K.length<=600000000:=by have:=hC.out.s.l;omega
  have HLL:=hid hll;clear hr1 hT hdn hll hKK;go_wp2_with fail
  go_loopw [8] (fun i' wr=>∃ (j:Nat) (K:List Lk),(j+1<=i\/j=0)/\i'=.int .i64 ((j:Int)+1)/\Hid (EdB w0 bb B nm' dir w b1 gs gp #[.int .i64 2,.string nm,.slice r i rc,.slice a A ac,.slice b Bn bc] #[.int .i64 p.c,pn,.slice pep PE pec] T own rs l (.slice oa i oc) i (j+1) S' K wr)) (fun i' _=>i+1 - (RowKit.intOf i').toNat)
  case atStart=>exact⟨0,S'.K,.inr rfl,rfl,hB0⟩
  clear hB0 hC HD d7 s2 hx;obtain⟨j,K,hj0,rfl,hC⟩:=hrel;have hx:=hC.out.d.X;have s2:wr.cell? ⟨gs,2,none⟩=some (.slice r i rc):=by rw[Lib.cell_of_heap hC.out.sb];rfl
  have s3:wr.cell? ⟨gs,3,none⟩=some (.slice a A ac):=by rw[Lib.cell_of_heap hC.out.sb];rfl
  have p2:wr.cell? ⟨gp,2,none⟩=some (.slice pep PE pec):=by rw[Lib.cell_of_heap hC.out.pb];rfl
  obtain⟨nv,av,cv,lv,aw,ks,hD⟩:=hC.out.d;obtain⟨la,lc,rfl,-,-⟩:=row_val hD.K;obtain⟨-,-,-,-,-,d6,d7⟩:=hD.cells;have HD:=hid hD;clear hD;by_cases hlt:j+1 < i
  · have hj1:j < rs.length:=by rw[<-HNL.out];omega
    have hj2:j+1 < rs.length:=by rw[<-HNL.out];omega
    have hl1:j < l.length:=by rw[HLL.out];exact hj1
    have hl2:j+1 < l.length:=by rw[HLL.out];exact hj2
    obtain⟨g2,gc,hov,-,-,-⟩:=row_has hC.out.own (by omega);injection hov with e1 e2 e3;subst e1;have i1:=hC.out.own.cells (g:=g2) rfl j (.int .i64 l[j]) (by unfold intsV;rw[List.getElem?_map,List.getElem?_eq_getElem hl1];rfl);have i2:=hC.out.own.cells (g:=g2) rfl (j+1) (.int .i64 l[j+1]) (by unfold intsV;rw[List.getElem?_map,List.getElem?_eq_getElem hl2];rfl);have I1:Hid ((intsV l)[j]? = some (.int .i64 l[j])):=hid (by unfold intsV;rw[List.getElem?_map,List.getElem?_eq_getElem hl1];rfl);have I2:Hid ((intsV l)[j+1]? = some (.int .i64 l[j+1])):=hid (by unfold intsV;rw[List.getElem?_map,List.getElem?_eq_getElem hl2];rfl);rw[add0] at i1 i2;obtain⟨g,o,rfl,-,-,c1⟩:=HTR.out j hj1;obtain⟨g',o',hgg,-,-,c2⟩:=HTR.out (j+1) hj2;injection hgg with hgg;injection hgg with hgg hoo _;subst hgg;subst hoo
    have hst:=hC.out.r.step HLL.out (by omega) hj2;simp only[Nat.add_sub_cancel] at hst;obtain⟨x1,hx1⟩:∃ x,x=l[j]:=⟨_,rfl⟩;obtain⟨x2,hx2⟩:∃ x,x=l[j+1]:=⟨_,rfl⟩;obtain⟨t1,ht1⟩:∃ x,x=rs[j].2:=⟨_,rfl⟩;obtain⟨t2,ht2⟩:∃ x,x=rs[j+1].2:=⟨_,rfl⟩;rw[<-hx1,<- hx2,<- ht1,<- ht2] at hst;rw[<-hx1] at i1 I1;rw[<-hx2] at i2 I2;rw[<-ht1] at c1;rw[<-ht2] at c2;have C1:=hid c1;have C2:=hid c2;replace c1:=hx.cell c1;replace c2:=hx.cell c2;have C0:=hid hx;have hm:=fun(w5:World) (x:Ext wr w5)=>HMG.out w5 (by obtain⟨q,qc,hq,hqi,-⟩:=(hC.out.kb.atL HPE.out).ext x;injection hq with hq _ _;subst hq;exact hqi) (hx.trans x)
    have HST:=hid hst;have hkl:=hC.out.kl;have hKl:K.length<=1000000000:=by omega
    have b0:(0:Int)<=(j:Int):=by omega
    have b1':(j:Int)+1 < (i:Int):=by omega
    have b2:(j:Int)+1 - 1=(j:Int):=by omega
    have b3:(j:Int) < (i:Int):=by omega
    have bw:IntKind.i64.wrap (j:Int)=(j:Int):=by rw[IntKind.wrap_i64];omega
    have b4:(0:Int)<=(j:Int)+1:=by omega
    clear hst hx1 hx2 ht1 ht2 hx e2 e3 hl1 hl2 hj1 hj2;obtain⟨e0,he,hez0,hez1,hez2⟩:=info_parts info_end;have HM:=hid hm;clear hm;go_wp2_with fail
    refine wp_region_K (S:=fun w'=>w'.cell? ⟨bb,6,none⟩=some (.slice la K.length lc)/\w'.cell? ⟨g2,j,none⟩=some (.int .i64 x1)/\w'.cell? ⟨g2,j+1,none⟩=some (.int .i64 x2)/\w'.cell? ⟨gs,2,none⟩=some (.slice (some ⟨g,o,none⟩) i rc)/\w'.cell? ⟨gs,3,none⟩=some (.slice a A ac)/\w'.cell? ⟨g,o+j * 2+1,none⟩=some (.string t1)/\w'.cell? ⟨g,o+(j+1) * 2+1,none⟩=some (.string t2)/\w'.cell? ⟨gp,2,none⟩=some (.slice pep PE pec)) (n:=37) (by kernel_rfl) (by exact⟨(Ext.refl wr).drew.cell d6,(Ext.refl wr).drew.cell i1,(Ext.refl wr).drew.cell i2,(Ext.refl wr).drew.cell s2,(Ext.refl wr).drew.cell s3,(Ext.refl wr).drew.cell c1,(Ext.refl wr).drew.cell c2,(Ext.refl wr).drew.cell p2⟩) (fun hHeld=>?_);refine kU 37 0 rfl hHeld ?_
    (try simp only[Act.put,q1,q2,q3])
    refine kU 37 1 rfl hHeld ?_
    (try simp only[Act.put,q1,q2,q3])
    refine kU 37 2 rfl hHeld ?_
    (try simp only[Act.put,q1,q2,q3])
    refine kU 37 3 rfl hHeld ?_
    (try simp only[Act.put,q1,q2,q3])
    refine kU 37 4 rfl hHeld ?_
    (try simp only[Act.put,q1,q2,q3])
    refine kU 37 5 rfl hHeld ?_
    (try simp only[Act.put,q1,q2,q3])
    refine kU 37 6 rfl hHeld ?_
    (try simp only[Act.put,q1,q2,q3])
    refine kU 37 7 rfl hHeld ?_
    (try simp only[Act.put,q1,q2,q3])
    refine kU 37 8 rfl hHeld ?_
    (try simp only[Act.put,q1,q2,q3])
    refine kU 37 9 rfl hHeld ?_
    (try simp only[Act.put,q1,q2,q3])
    refine kU 37 10 rfl hHeld ?_
    (try simp only[Act.put,q1,q2,q3])
    refine kU 37 11 rfl hHeld ?_
    (try simp only[Act.put,q1,q2,q3])
    refine kU 37 12 rfl hHeld ?_
    (try simp only[Act.put,q1,q2,q3])
    refine kU 37 13 rfl hHeld ?_
    (try simp only[Act.put,q1,q2,q3])
    refine kU 37 14 rfl hHeld ?_
    (try simp only[Act.put,q1,q2,q3])
    refine kU 37 15 rfl hHeld ?_
    (try simp only[Act.put,q1,q2,q3])
    refine kU 37 16 rfl hHeld ?_
    (try simp only[Act.put,q1,q2,q3])
    refine kU 37 17 rfl hHeld ?_
    (try simp only[Act.put,q1,q2,q3])
    refine kU 37 18 rfl hHeld ?_
    (try simp only[Act.put,q1,q2,q3])
    refine kU 37 19 rfl hHeld ?_
    (try simp only[Act.put,q1,q2,q3])
    refine kU 37 20 rfl hHeld ?_
    (try simp only[Act.put,q1,q2,q3])
    refine kU 37 21 rfl hHeld ?_
    (try simp only[Act.put,q1,q2,q3])
    refine kU 37 22 rfl hHeld ?_
    (try simp only[Act.put,q1,q2,q3])
    refine kU 37 23 rfl hHeld ?_
    (try simp only[Act.put,q1,q2,q3])
    refine kU 37 24 rfl hHeld ?_
    (try simp only[Act.put,q1,q2,q3])
    refine kU 37 25 rfl hHeld ?_
    (try simp only[Act.put,q1,q2,q3])
    refine kU 37 26 rfl hHeld ?_
    (try simp only[Act.put,q1,q2,q3])
    refine kU 37 27 rfl hHeld ?_
    (try simp only[Act.put,q1,q2,q3])
    refine kU 37 28 rfl hHeld ?_
    (try simp only[Act.put,q1,q2,q3])
    refine kU 37 29 rfl hHeld ?_
    (try simp only[Act.put,q1,q2,q3])
    refine kU 37 30 rfl hHeld ?_
    (try simp only[Act.put,q1,q2,q3])
    refine wpAnyK_step (o:=_) (i:=31) rfl (by kernel_rfl) (fun KK hKK=>?_);go_simp
    (go_at_call 91;refine Calls.mono (by with_reducible exact HM.out _ (Ext.refl _).drew) ?_;rintro e w3 ⟨⟨ra,rrc,rfl,hri,hrz⟩,x3'⟩;have x3:Ext wr w3:=Ext.trans (Ext.refl _).drew x3';have HR3:=hid (show AtL w3 (.slice ra own.length rrc) own from⟨ra,rrc,rfl,hri,hrz⟩);have HD3:=hid (HD.out.ext x3);have HX3:=hid x3;clear hri hrz x3' x3)
    refine hKK.out _ _ (fun _=>?_) (fun hH=>?_)
    · (exact⟨Ext.cell (HX3.out) d6,Ext.cell (HX3.out) i1,Ext.cell (HX3.out) i2,Ext.cell (HX3.out) s2,Ext.cell (HX3.out) s3,Ext.cell (HX3.out) c1,Ext.cell (HX3.out) c2,Ext.cell (HX3.out) p2⟩)
    clear hHeld;have hHeld:=hH (by decide);clear hKK KK hH;(try dsimp only at hHeld)
    (try simp only[Act.put,q1,q2,q3])
    refine kU 37 32 rfl hHeld ?_
    (try simp only[Act.put,q1,q2,q3])
    refine wpAnyK_step (o:=_) (i:=33) rfl (by kernel_rfl) (fun KK hKK=>?_);go_simp;refine hKK.out _ _ (fun _=>?_) (fun hH=>?_)
    · (exact⟨Ext.cell (HX3.out.alloc _) d6,Ext.cell (HX3.out.alloc _) i1,Ext.cell (HX3.out.alloc _) i2,Ext.cell (HX3.out.alloc _) s2,Ext.cell (HX3.out.alloc _) s3,Ext.cell (HX3.out.alloc _) c1,Ext.cell (HX3.out.alloc _) c2,Ext.cell (HX3.out.alloc _) p2⟩)
    clear hHeld;have hHeld:=hH (by decide);clear hKK KK hH;(try dsimp only at hHeld)
    (try simp only[Act.put,q1,q2,q3])
    refine wpAnyK_step (o:=_) (i:=34) rfl (by kernel_rfl) (fun KK hKK=>?_);refine step_append_lies _ (by rfl) _ _ 93 (by rfl) B 164 e0 _ 5 72 Tryz.underlying93 he hez0 hez1 hez2 rfl (by decide) _ _ _ (by rfl) (At.own_ext HD3.out.K ((Ext.refl w3).alloc _)) ⟨w3.heap.size,0,none⟩ 1 1 [.int .i64 x1,.int .i64 x2,.string t1,.string t2,.slice ra own.length rrc] (by rfl) (by rfl) (World.news_of_block (cs:=#[.int .i64 x1,.int .i64 x2,.string t1,.string t2,.slice ra own.length rrc]) (t:=164) (fr:=(0,0)) (heap_alloc_new w3 _)) (by intro u hu;simp at hu;rcases hu with rfl | rfl | rfl | rfl | rfl <;> rfl) (by omega) (by show K.length+1<=maxLen;unfold maxLen;omega) (by show(K.length+1) * 72<=_;omega) (by have:=HD3.out.Z;simp;omega) _ rfl ?_;intro g7 c7 w7 hown1 hgrow hat2 hlt2
    have HD6:=hid (HD3.out.ext ((Ext.refl w3).alloc (.cells #[.int .i64 x1,.int .i64 x2,.string t1,.string t2,.slice ra own.length rrc] 164)));have hrt:=row_ty HD6.out.K;have hS7:=cel_keep HD6.out.blk hgrow hrt (nope (by decide));have e7:w7.cell? ⟨bb,6,none⟩=some (.slice la K.length lc):=by rw[Lib.cell_of_heap hS7];rfl
    have f7:w7.frozen? ⟨bb,6,none⟩=false:=Lib.frozen_of_heap hS7 6;have X7:=ext_grown HD6.out.X hgrow (HD6.out.lo' HD6.out.K);have sb7:=cel_keep (At.heap_ext hC.out.sb (HX3.out.alloc (.cells #[.int .i64 x1,.int .i64 x2,.string t1,.string t2,.slice ra own.length rrc] 164))) hgrow hrt (nope (by decide));have pb7:=cel_keep (At.heap_ext hC.out.pb (HX3.out.alloc (.cells #[.int .i64 x1,.int .i64 x2,.string t1,.string t2,.slice ra own.length rrc] 164))) hgrow hrt (nope (by decide));have ow7:=row_keep (At.own_ext hC.out.own (HX3.out.alloc (.cells #[.int .i64 x1,.int .i64 x2,.string t1,.string t2,.slice ra own.length rrc] 164))) hgrow hrt (nope (by decide))
    have HS7:=hid (show w7.cell? ⟨bb,6,none⟩=some (.slice la K.length lc)/\w7.cell? ⟨g2,j,none⟩=some (.int .i64 x1)/\w7.cell? ⟨g2,j+1,none⟩=some (.int .i64 x2)/\w7.cell? ⟨gs,2,none⟩=some (.slice (some ⟨g,o,none⟩) i rc)/\w7.cell? ⟨gs,3,none⟩=some (.slice a A ac)/\w7.cell? ⟨g,o+j * 2+1,none⟩=some (.string t1)/\w7.cell? ⟨g,o+(j+1) * 2+1,none⟩=some (.string t2)/\w7.cell? ⟨gp,2,none⟩=some (.slice pep PE pec) from⟨e7,ow_ints ow7 I1.out,ow_ints ow7 I2.out,by rw[Lib.cell_of_heap sb7];rfl,by rw[Lib.cell_of_heap sb7];rfl,X7.cell C1.out,X7.cell C2.out,by rw[Lib.cell_of_heap pb7];rfl⟩);have FIN:=hid (HD6.out.appK (v:=.slice ra own.length rrc) ⟨x1,t1,x2,t2,own⟩ (HR3.out.ext ((Ext.refl w3).alloc _)) rfl hown1 hgrow);have hst7:=set_grown w7 bb 6 (.slice (some ⟨g7,0,none⟩) (K.length+1) c7);have hss7:=cel_ty hS7
    have SB8:=hid (cel_keep sb7 hst7 hss7 (nope (by decide)));have PB8:=hid (cel_keep pb7 hst7 hss7 (nope (by decide)));have OW8:=hid (row_keep ow7 hst7 hss7 (nope (by decide)));clear hown1 hgrow hat2 hlt2 hS7 hrt X7 sb7 pb7 ow7 hst7 hss7;refine hKK.out _ _ (fun _=>?_) (fun hH=>?_)
    · (exact HS7.out)
    clear hHeld;have hHeld:=hH (by decide);clear hKK KK hH;(try dsimp only at hHeld)
    (try simp only[Act.put,q1,q2,q3])
    refine wpAnyK_step (o:=_) (i:=35) rfl (by kernel_rfl) (fun KK hKK=>?_);go_simp;refine hKK.out _ _ (fun _=>?_) (fun hH=>?_)
    · (exact hHeld)
    clear hHeld;have hHeld:=hH (by decide);clear hKK KK hH;(try dsimp only at hHeld)
    (try simp only[Act.put,q1,q2,q3])
    refine wpAnyK_step (o:=_) (i:=36) rfl (by kernel_rfl) (fun KK hKK=>?_);go_simp;refine hKK.out _ _ (fun _=>?_) (fun hH=>?_)
    · (exact hHeld)
    clear hHeld;have hHeld:=hH (by decide);clear hKK KK hH;(try dsimp only at hHeld)
    (try simp only[Act.put,q1,q2,q3])
    refine wpAnyK_step (o:=_) (i:=37) rfl (by kernel_rfl) (fun KK hKK=>?_);go_simp;refine hKK.out _ _ (fun h=>absurd rfl h) (fun _=>?_);clear hKK KK
    (try simp only[Act.put,q1,q2,q3])
    refine wpAnyK_done (by kernel_rfl) ?_ _;go_wp2
    go_roundw
    case rel=>exact⟨j+1,_,.inl (by omega),by go_num,hid ⟨⟨_,_,_,_,_,_,FIN.out.1⟩,HST.out,by simp;omega,OW8.out,SB8.out,PB8.out,(hC.out.kb.ext (HX3.out.alloc (.cells #[.int .i64 x1,.int .i64 x2,.string t1,.string t2,.slice ra own.length rrc] 164))).trans FIN.out.2⟩⟩
    case measure=>simp[RowKit.intOf];omega
  have hT:T=K:=hC.out.r.done (by rw[<-HNL.out];omega);have hr:Hid (R=.ok { S' with K:=K }):=hid (by rw[HR.out,hT]);have b1':¬ (j:Int)+1 < (i:Int):=by omega
  go_wp2;go_returns;rw[hr.out];exact⟨rfl,hC.out.d,hC.out.kb⟩
end Go.Proofs.YtjaeedbjknejdaaGreatDoor.Nm
