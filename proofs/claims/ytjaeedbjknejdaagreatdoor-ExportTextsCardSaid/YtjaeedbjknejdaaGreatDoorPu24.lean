/- Packed texts: TreAtrR -/
import Derived.Test.YtjaeedbjknejdaaGreatDoorPu23
import Derived.Test.YtjaeedbjknejdaaGreatDoorPu20
import Derived.Deep.QuietTactic
set_option linter.unusedVariables false
set_option linter.unusedSimpArgs false
set_option maxHeartbeats 16000000
set_option maxRecDepth 100000
namespace Go.Proofs.YtjaeedbjknejdaaGreatDoor.Tr
open Go.RowKit Go.Sort Go.Lib Go.Shelf Fx Lx
theorem hasA_false {L:List Two}{n:ByteArray}{k:Nat}(h:∀ i (hi:i < L.length),i < k->L[i].1 ≠ n):hasA (L.take k) n=false:=by
  unfold hasA;rw[List.any_eq_false];intro q hq;obtain⟨i,hi,rfl⟩:=List.getElem_of_mem hq;have hi2:i < k/\i < L.length:=by rw[List.length_take] at hi;omega
  rw[List.getElem_take]
  simpa using h i hi2.2 hi2.1
theorem hasA_true {L:List Two}{n:ByteArray}{k j:Nat}(hj:j < k)(hl:j < L.length)(h:L[j].1=n):hasA (L.take k) n=true:=by
  unfold hasA;rw[List.any_eq_true];exact⟨L[j],List.mem_take_iff_getElem.2 ⟨j,by omega,rfl⟩,by simpa using h⟩
theorem attrR_name (kind:Int)(nm:ByteArray)(r a b:Option Addr)(R B rc ac bc:Nat)(al:List Two)(w:World)(hkd:kind ≠ 4)(h:TwoIn w a al)(hs:∀ q ∈ al,q.1.size<=9223372036854775807/\q.2.size<=9223372036854775807)(h16:al.length<=16):
    Calls Tryz.prog 85 #[.agg #[.int .i64 kind,.string nm,.slice r R rc,.slice a al.length ac,.slice b B bc]] w fun e w'=>e=.returned (.int .i64 (attrsGo kind al []))/\Ext w w':=by
  obtain⟨V,hV⟩:∃ V,V=attrsGo kind al []:=⟨_,rfl⟩;rw[<-hV];have HV:Hid (V=attrsGo kind (al.drop 0) (al.take 0)):=Lib.hid hV;obtain⟨f4,f4'⟩:=ne_facts hkd;have HKD:=Lib.hid hkd;obtain⟨N,hN⟩:∃ N,N=al.length:=⟨_,rfl⟩;have hx0:Ext w (w.alloc (.cells #[.int .i64 kind,.string nm,.slice r R rc,.slice a al.length ac,.slice b B bc] 67)):=(Ext.refl _).alloc _;have hcl:=stm_cells w kind nm r a b R al.length B rc ac bc;rw[<-hN] at h16 hcl hx0 ⊢;have HCL:=Lib.hid hcl;have HN:=Lib.hid hN;have HI:=Lib.hid h;have HS:=Lib.hid hs;obtain⟨k0,k1,k2,k3,k4⟩:=hcl _ (Ext.refl _);clear hV hN h hs hcl hkd;go_enter Tryz.func85,Tryz.ntmps85;go_wp2
  go_loopw [3] (fun i' wr=>∃ k:Nat,k<=N/\i'=.int .i64 k/\Ext (w.alloc (.cells #[.int .i64 kind,.string nm,.slice r R rc,.slice a N ac,.slice b B bc] 67)) wr/\Hid (V=attrsGo kind (al.drop k) (al.take k))) (fun i' _=>N - (RowKit.intOf i').toNat)
  case atStart=>exact⟨0,by omega,rfl,Ext.refl _,HV⟩
  obtain⟨k,hk,rfl,hx,ha⟩:=hrel;clear HV k0 k1 k2 k3 k4;obtain⟨s0,s1,s2,s3,s4⟩:=HCL.out wr hx;by_cases hlt:k < N
  · have hkl:k < al.length:=by rw[<-HN.out];exact hlt
    have hin:=HI.out.ext (hx0.trans hx);obtain⟨g,o,rfl,c0,c1⟩:=hin k hkl;obtain⟨n,d,hq⟩:∃ n d,al[k]=(n,d):=⟨_,_,rfl⟩;rw[hq] at c0 c1;have hst:=ha.out;rw[List.drop_eq_getElem_cons hkl,attrsGo_cons,hq] at hst;have htk:al.take k++[(n,d)]=al.take (k+1):=by rw[List.take_succ_eq_append_getElem hkl,hq]
    rw[htk] at hst;dsimp only at hst;have hds:n.size<=9223372036854775807/\d.size<=9223372036854775807:=by have h:=HS.out _ (List.getElem_mem hkl);rw[hq] at h;exact h
    have hxb:Ext wr (wr.alloc (.cells #[.string n,.string d] 69)):=(Ext.refl _).alloc _;have hnm:=fun w=>name07_any n hds.1 w
    have hdz:=hds.2;obtain⟨t0,t1,t2,t3,t4⟩:=HCL.out _ (hx.trans hxb);have HAT:=Lib.hid (atr_cells wr n d);obtain⟨e0,e1⟩:=HAT.out _ (Ext.refl _);generalize hp:nameB n.data.toList=p at hst hnm;have HNM:=Lib.hid hnm;have HX:=Lib.hid (hx.trans hxb);have HIN:=Lib.hid (hin.ext hxb);clear htk hq ha hds hin hnm hp hx hxb;cases p
    · rw[if_pos ⟨HKD.out,rfl⟩] at hst;have hf:=Lib.hid hst;clear hst;go_wp2_with (go_at_call 39;refine(HNM.out _).mono ?_;rintro e w3 ⟨rfl,rfl⟩);go_returns;exact⟨by rw[hf.out];rfl,hx0.trans HX.out⟩
    rw[if_neg (fun h=>absurd h.2 (by decide))] at hst;have HST:=Lib.hid hst;clear hst;go_wp2_with (first | fail | (go_at_call 39;refine(HNM.out _).mono ?_;rintro e w3 ⟨rfl,rfl⟩));clear t0 t1 t2 t3 t4 e0 e1 c0 c1 s0 s1 s2 s3 s4
    go_loopw [5] (fun j' wj=>∃ j:Nat,j<=k/\j'=.int .i64 j/\Ext (wr.alloc (.cells #[.string n,.string d] 69)) wj/\Hid (∀ i (hi:i < al.length),i < j->al[i].1 ≠ n)) (fun j' _=>k - (RowKit.intOf j').toNat)
    case atStart=>exact⟨0,by omega,rfl,Ext.refl _,Lib.hid (fun i _ h=>absurd h (by omega))⟩
    obtain⟨j,hj,rfl,hxj,hall⟩:=hrel;obtain⟨t0,t1,t2,t3,t4⟩:=HCL.out _ (HX.out.trans hxj);obtain⟨e0,e1⟩:=HAT.out _ hxj;by_cases hjk:j < k
    · have hjl:j < al.length:=by omega
      obtain⟨g',o',he',d0,_⟩:=(HIN.out.ext hxj) j hjl;injection he' with he';injection he' with e2 e3 _;subst e2;subst e3;obtain⟨z,hz⟩:∃ z,z=al[j].1:=⟨_,rfl⟩;rw[<-hz] at d0;have HZ:=Lib.hid hz;clear hz;by_cases heq:z=n
      · have hf:Hid (V=6):=Lib.hid (by rw[HST.out,if_pos (hasA_true hjk hjl (by rw[<-HZ.out];exact heq))]);have g3:(z.toList == n.toList)=true:=by rw[beqs];exact decide_eq_true heq
        clear heq hall HZ HST;go_wp2
        go_quiet (fail)
        go_wp2;go_returns;exact⟨by rw[hf.out];rfl,(hx0.trans (HX.out.trans hxj)).drewN _⟩
      have hf:Hid (∀ i (hi:i < al.length),i < j+1->al[i].1 ≠ n):=Lib.hid (fun i hi h=>by
        by_cases e:i=j
        · subst e;rw[<-HZ.out];exact heq
        exact hall.out i hi (by omega))
      have g3:(z.toList == n.toList)=false:=by rw[beqs];exact decide_eq_false heq
      clear heq hall HZ;go_wp2
      go_quiet (fail)
      go_wp2
      go_roundw
      case rel=>exact⟨j+1,by omega,by go_num,hxj.drewN _,hf⟩
      case measure=>simp[RowKit.intOf];omega
    obtain rfl:j=k:=by omega
    have hst:=HST.out;rw[hasA_false hall.out,if_neg (by decide)] at hst;clear hall HST;by_cases h32:32 < d.size
    · rw[if_pos h32] at hst;have hf:=Lib.hid hst;have g1:decide ((32:Int) < d.size)=true:=decide_eq_true (by omega);clear hst;go_wp2;go_returns;exact⟨by rw[hf.out];rfl,hx0.trans (HX.out.trans hxj)⟩
    rw[if_neg h32] at hst;have g1:decide ((32:Int) < d.size)=false:=decide_eq_false (by omega);obtain⟨q,hq'⟩:∃ q,q=d.data.toList.all okT:=⟨_,rfl⟩;rw[<-hq'] at hst;have HQ:Hid (q=(d.data.toList.drop 0).all okT):=Lib.hid (by rw[List.drop_zero];exact hq');have HST:=Lib.hid hst;clear hst hq';go_wp2
    go_loop [6] (fun m'=>∃ m:Nat,m<=d.size/\m'=.int .i64 m/\Hid (q=(d.data.toList.drop m).all okT)) (fun m'=>d.size - (RowKit.intOf m').toNat)
    case atStart=>exact⟨0,by omega,rfl,HQ⟩
    obtain⟨m,hm,rfl,hb⟩:=hrel;clear HQ;by_cases hjd:m < d.size
    · have hb':=hb.out
      have hd:d.data.toList.drop m=d[m]::d.data.toList.drop (m+1):=by
        rw[List.drop_eq_getElem_cons (by rw[<-size_len];exact hjd)];rfl
      rw[hd,List.all_cons] at hb';clear hb hd;by_cases k1:32<=d[m].toNat
      · by_cases k2:d[m].toNat<=126
        · have hf:Hid (q=(d.data.toList.drop (m+1)).all okT):=Lib.hid (by
            rw[hb'];unfold okT;rw[decide_eq_true k1,decide_eq_true k2];rfl)
          have g2:decide ((126:Int) < d[m].toNat)=false:=decide_eq_false (by omega);have g3:decide ((d[m].toNat:Int) < 32)=false:=decide_eq_false (by omega);clear hb';go_wp2
          go_round
          case rel=>exact⟨m+1,by omega,by go_num,hf⟩
          case measure=>simp[RowKit.intOf];omega
        have hf:Hid (q=false):=Lib.hid (by
          rw[hb'];unfold okT;rw[decide_eq_false k2];simp)
        have g2:decide ((126:Int) < d[m].toNat)=true:=decide_eq_true (by omega);have g3:decide ((d[m].toNat:Int) < 32)=false:=decide_eq_false (by omega);clear hb';go_wp2;go_returns;exact⟨ret_int (by rw[HST.out,hf.out];rfl),hx0.trans (HX.out.trans hxj)⟩
      have hf:Hid (q=false):=Lib.hid (by
        rw[hb'];unfold okT;rw[decide_eq_false k1];simp)
      have g3:decide ((d[m].toNat:Int) < 32)=true:=decide_eq_true (by omega);clear hb';go_wp2;go_returns;exact⟨ret_int (by rw[HST.out,hf.out];rfl),hx0.trans (HX.out.trans hxj)⟩
    have hf:Hid (V=attrsGo kind (al.drop (j+1)) (al.take (j+1))):=Lib.hid (by
      rw[HST.out,hb.out,List.drop_eq_nil_of_le (by rw[<-size_len];omega)];rfl)
    clear hb;go_wp2
    go_roundw
    case rel=>exact⟨j+1,by omega,by go_num,HX.out.trans hxj,hf⟩
    case measure=>simp[RowKit.intOf];omega
  have hf:Hid (V=0):=Lib.hid (by rw[ha.out,List.drop_eq_nil_of_le (by rw[<-HN.out];omega)];rfl);clear ha;go_wp2;go_returns;exact⟨by rw[hf.out];rfl,hx0.trans hx⟩
theorem attrR_four (kind:Int)(nm:ByteArray)(r a b:Option Addr)(R B rc ac bc:Nat)(al:List Two)(w:World)(hkd:kind=4)(h:TwoIn w a al)(hs:∀ q ∈ al,q.1.size<=9223372036854775807/\q.2.size<=9223372036854775807)(h16:al.length<=16):
    Calls Tryz.prog 85 #[.agg #[.int .i64 kind,.string nm,.slice r R rc,.slice a al.length ac,.slice b B bc]] w fun e w'=>e=.returned (.int .i64 (attrsGo kind al []))/\Ext w w':=by
  obtain⟨V,hV⟩:∃ V,V=attrsGo kind al []:=⟨_,rfl⟩;rw[<-hV];have HV:Hid (V=attrsGo kind (al.drop 0) (al.take 0)):=Lib.hid hV;obtain⟨f4,f4'⟩:=eq_facts hkd;have HKD:=Lib.hid hkd;obtain⟨N,hN⟩:∃ N,N=al.length:=⟨_,rfl⟩;have hx0:Ext w (w.alloc (.cells #[.int .i64 kind,.string nm,.slice r R rc,.slice a al.length ac,.slice b B bc] 67)):=(Ext.refl _).alloc _;have hcl:=stm_cells w kind nm r a b R al.length B rc ac bc;rw[<-hN] at h16 hcl hx0 ⊢;have HCL:=Lib.hid hcl;have HN:=Lib.hid hN;have HI:=Lib.hid h;have HS:=Lib.hid hs;obtain⟨k0,k1,k2,k3,k4⟩:=hcl _ (Ext.refl _);clear hV hN h hs hcl hkd;go_enter Tryz.func85,Tryz.ntmps85;go_wp2
  go_loopw [3] (fun i' wr=>∃ k:Nat,k<=N/\i'=.int .i64 k/\Ext (w.alloc (.cells #[.int .i64 kind,.string nm,.slice r R rc,.slice a N ac,.slice b B bc] 67)) wr/\Hid (V=attrsGo kind (al.drop k) (al.take k))) (fun i' _=>N - (RowKit.intOf i').toNat)
  case atStart=>exact⟨0,by omega,rfl,Ext.refl _,HV⟩
  obtain⟨k,hk,rfl,hx,ha⟩:=hrel;clear HV k0 k1 k2 k3 k4;obtain⟨s0,s1,s2,s3,s4⟩:=HCL.out wr hx;by_cases hlt:k < N
  · have hkl:k < al.length:=by rw[<-HN.out];exact hlt
    have hin:=HI.out.ext (hx0.trans hx);obtain⟨g,o,rfl,c0,c1⟩:=hin k hkl;obtain⟨n,d,hq⟩:∃ n d,al[k]=(n,d):=⟨_,_,rfl⟩;rw[hq] at c0 c1;have hst:=ha.out;rw[List.drop_eq_getElem_cons hkl,attrsGo_cons,hq] at hst;have htk:al.take k++[(n,d)]=al.take (k+1):=by rw[List.take_succ_eq_append_getElem hkl,hq]
    rw[htk] at hst;dsimp only at hst;have hds:n.size<=9223372036854775807/\d.size<=9223372036854775807:=by have h:=HS.out _ (List.getElem_mem hkl);rw[hq] at h;exact h
    have hxb:Ext wr (wr.alloc (.cells #[.string n,.string d] 69)):=(Ext.refl _).alloc _;have hnm:=fun w=>name07_any n hds.1 w
    have hdz:=hds.2;obtain⟨t0,t1,t2,t3,t4⟩:=HCL.out _ (hx.trans hxb);have HAT:=Lib.hid (atr_cells wr n d);obtain⟨e0,e1⟩:=HAT.out _ (Ext.refl _);generalize hp:nameB n.data.toList=p at hst hnm;have HNM:=Lib.hid hnm;have HX:=Lib.hid (hx.trans hxb);have HIN:=Lib.hid (hin.ext hxb);clear htk hq ha hds hin hnm hp hx hxb;rw[if_neg (fun h=>absurd HKD.out h.1)] at hst;have HST:=Lib.hid hst;clear hst;go_wp2_with fail;clear t0 t1 t2 t3 t4 e0 e1 c0 c1 s0 s1 s2 s3 s4
    go_loopw [5] (fun j' wj=>∃ j:Nat,j<=k/\j'=.int .i64 j/\Ext (wr.alloc (.cells #[.string n,.string d] 69)) wj/\Hid (∀ i (hi:i < al.length),i < j->al[i].1 ≠ n)) (fun j' _=>k - (RowKit.intOf j').toNat)
    case atStart=>exact⟨0,by omega,rfl,Ext.refl _,Lib.hid (fun i _ h=>absurd h (by omega))⟩
    obtain⟨j,hj,rfl,hxj,hall⟩:=hrel;obtain⟨t0,t1,t2,t3,t4⟩:=HCL.out _ (HX.out.trans hxj);obtain⟨e0,e1⟩:=HAT.out _ hxj;by_cases hjk:j < k
    · have hjl:j < al.length:=by omega
      obtain⟨g',o',he',d0,_⟩:=(HIN.out.ext hxj) j hjl;injection he' with he';injection he' with e2 e3 _;subst e2;subst e3;obtain⟨z,hz⟩:∃ z,z=al[j].1:=⟨_,rfl⟩;rw[<-hz] at d0;have HZ:=Lib.hid hz;clear hz;by_cases heq:z=n
      · have hf:Hid (V=6):=Lib.hid (by rw[HST.out,if_pos (hasA_true hjk hjl (by rw[<-HZ.out];exact heq))]);have g3:(z.toList == n.toList)=true:=by rw[beqs];exact decide_eq_true heq
        clear heq hall HZ HST;go_wp2
        go_quiet (fail)
        go_wp2;go_returns;exact⟨by rw[hf.out];rfl,(hx0.trans (HX.out.trans hxj)).drewN _⟩
      have hf:Hid (∀ i (hi:i < al.length),i < j+1->al[i].1 ≠ n):=Lib.hid (fun i hi h=>by
        by_cases e:i=j
        · subst e;rw[<-HZ.out];exact heq
        exact hall.out i hi (by omega))
      have g3:(z.toList == n.toList)=false:=by rw[beqs];exact decide_eq_false heq
      clear heq hall HZ;go_wp2
      go_quiet (fail)
      go_wp2
      go_roundw
      case rel=>exact⟨j+1,by omega,by go_num,hxj.drewN _,hf⟩
      case measure=>simp[RowKit.intOf];omega
    obtain rfl:j=k:=by omega
    have hst:=HST.out;rw[hasA_false hall.out,if_neg (by decide)] at hst;clear hall HST;by_cases h32:32 < d.size
    · rw[if_pos h32] at hst;have hf:=Lib.hid hst;have g1:decide ((32:Int) < d.size)=true:=decide_eq_true (by omega);clear hst;go_wp2;go_returns;exact⟨by rw[hf.out];rfl,hx0.trans (HX.out.trans hxj)⟩
    rw[if_neg h32] at hst;have g1:decide ((32:Int) < d.size)=false:=decide_eq_false (by omega);obtain⟨q,hq'⟩:∃ q,q=d.data.toList.all okT:=⟨_,rfl⟩;rw[<-hq'] at hst;have HQ:Hid (q=(d.data.toList.drop 0).all okT):=Lib.hid (by rw[List.drop_zero];exact hq');have HST:=Lib.hid hst;clear hst hq';go_wp2
    go_loop [6] (fun m'=>∃ m:Nat,m<=d.size/\m'=.int .i64 m/\Hid (q=(d.data.toList.drop m).all okT)) (fun m'=>d.size - (RowKit.intOf m').toNat)
    case atStart=>exact⟨0,by omega,rfl,HQ⟩
    obtain⟨m,hm,rfl,hb⟩:=hrel;clear HQ;by_cases hjd:m < d.size
    · have hb':=hb.out
      have hd:d.data.toList.drop m=d[m]::d.data.toList.drop (m+1):=by
        rw[List.drop_eq_getElem_cons (by rw[<-size_len];exact hjd)];rfl
      rw[hd,List.all_cons] at hb';clear hb hd;by_cases k1:32<=d[m].toNat
      · by_cases k2:d[m].toNat<=126
        · have hf:Hid (q=(d.data.toList.drop (m+1)).all okT):=Lib.hid (by
            rw[hb'];unfold okT;rw[decide_eq_true k1,decide_eq_true k2];rfl)
          have g2:decide ((126:Int) < d[m].toNat)=false:=decide_eq_false (by omega);have g3:decide ((d[m].toNat:Int) < 32)=false:=decide_eq_false (by omega);clear hb';go_wp2
          go_round
          case rel=>exact⟨m+1,by omega,by go_num,hf⟩
          case measure=>simp[RowKit.intOf];omega
        have hf:Hid (q=false):=Lib.hid (by
          rw[hb'];unfold okT;rw[decide_eq_false k2];simp)
        have g2:decide ((126:Int) < d[m].toNat)=true:=decide_eq_true (by omega);have g3:decide ((d[m].toNat:Int) < 32)=false:=decide_eq_false (by omega);clear hb';go_wp2;go_returns;exact⟨ret_int (by rw[HST.out,hf.out];rfl),hx0.trans (HX.out.trans hxj)⟩
      have hf:Hid (q=false):=Lib.hid (by
        rw[hb'];unfold okT;rw[decide_eq_false k1];simp)
      have g3:decide ((d[m].toNat:Int) < 32)=true:=decide_eq_true (by omega);clear hb';go_wp2;go_returns;exact⟨ret_int (by rw[HST.out,hf.out];rfl),hx0.trans (HX.out.trans hxj)⟩
    have hf:Hid (V=attrsGo kind (al.drop (j+1)) (al.take (j+1))):=Lib.hid (by
      rw[HST.out,hb.out,List.drop_eq_nil_of_le (by rw[<-size_len];omega)];rfl)
    clear hb;go_wp2
    go_roundw
    case rel=>exact⟨j+1,by omega,by go_num,HX.out.trans hxj,hf⟩
    case measure=>simp[RowKit.intOf];omega
  have hf:Hid (V=0):=Lib.hid (by rw[ha.out,List.drop_eq_nil_of_le (by rw[<-HN.out];omega)];rfl);clear ha;go_wp2;go_returns;exact⟨by rw[hf.out];rfl,hx0.trans hx⟩
theorem attrR_any (kind:Int)(nm:ByteArray)(rs al:List Two)(body:List Stm)(r a b:Option Addr)(rc ac bc:Nat)(w:World)(h:TwoIn w a al)(hs:∀ q ∈ al,q.1.size<=9223372036854775807/\q.2.size<=9223372036854775807):
    Calls Tryz.prog 85 #[.agg #[.int .i64 kind,.string nm,.slice r rs.length rc,.slice a al.length ac,.slice b body.length bc]] w fun e w'=>e=.returned (.int .i64 (attrsE (.mk kind nm rs al body)))/\Ext w w':=by
  rw[show attrsE (.mk kind nm rs al body)=if 16 < al.length then 2 else attrsGo kind al [] from rfl];by_cases h16:16 < al.length
  · rw[if_pos h16];have g1:decide ((16:Int) < al.length)=true:=decide_eq_true (by omega);clear h hs h16;generalize al.length=N at *;generalize rs.length=R at *;generalize body.length=B at *;go_enter Tryz.func85,Tryz.ntmps85;go_wp2;go_returns;exact⟨rfl,(Ext.refl _).alloc _⟩
  rw[if_neg h16];by_cases h4:kind=4
  · exact attrR_four kind nm r a b _ _ rc ac bc al w h4 h hs (by omega)
  exact attrR_name kind nm r a b _ _ rc ac bc al w h4 h hs (by omega)
end Go.Proofs.YtjaeedbjknejdaaGreatDoor.Tr
