/- Packed texts: QuoDoc, QuoQuote, TreVal, TreList, BuildStr -/
import Derived.Test.YtjaeedbjknejdaaGreatDoorPu42
import Derived.Lib.FrozenHead
set_option linter.unusedVariables false
set_option linter.unusedSimpArgs false
set_option maxHeartbeats 16000000
set_option maxRecDepth 100000
namespace Go.Proofs.YtjaeedbjknejdaaGreatDoor.Qo
open Go.RowKit Go.Lib Fx Lx
theorem take_doc (s:ByteArray)(k:Nat)(h:k < s.size):s.data.toList.take (k+1)=s.data.toList.take k++[s[k]]:=by
  rw[List.take_succ_eq_append_getElem (by rw[<-size_len];exact h)];rfl
theorem escL_doc (l:List UInt8)(b:UInt8):escL (l++[b])=escL l++escB b:=by unfold escL;simp
def quoteV (l:List UInt8):Value:=.tuple #[.string ⟨(quote l).1.toArray⟩,.int .i64 (quote l).2]
theorem three_app (l:List UInt8):(⟨#[34]⟩:ByteArray)++(⟨l.toArray⟩:ByteArray)++(⟨#[34]⟩:ByteArray)=⟨(34::(l++[34])).toArray⟩:=by
  apply ByteArray.ext;simp[ByteArray.data_append]
theorem quoteR_any (s:ByteArray)(w:World)(hs:s.size<=9223372036854775807):
    Calls Tryz.prog 242 #[.string s] w fun e w'=>e=.returned (quoteV s.data.toList)/\w=w':=by
  by_cases h1:32 < s.size
  · have hq:quoteV s.data.toList=.tuple #[.string ⟨#[]⟩,.int .i64 2]:=by unfold quoteV quote;rw[if_pos (by rw[<-size_len];exact h1)]
    have HQ:=Lib.hid hq;clear hq;go_enter Tryz.func242,Tryz.ntmps242;go_wp2_with fail;go_returns;exact⟨ret_val HQ.out.symm,rfl⟩
  have hp:=plainR_any s (by omega) w;have h1':s.size<=32:=by omega
  cases hpl:plainB s.data.toList
  · have hq:quoteV s.data.toList=.tuple #[.string ⟨#[]⟩,.int .i64 1]:=by unfold quoteV quote;rw[if_neg (by rw[<-size_len];exact h1),hpl];rfl
    rw[hpl] at hp;have HQ:=Lib.hid hq;have HP:=Lib.hid hp;clear hq hp hpl;go_enter Tryz.func242,Tryz.ntmps242;go_wp2_with fail;refine HP.out.mono ?_;rintro e w1 ⟨rfl,rfl⟩;go_wp2_with fail;go_returns;exact⟨ret_val HQ.out.symm,rfl⟩
  have hq:quoteV s.data.toList=.tuple #[.string ⟨(34::(escL s.data.toList++[34])).toArray⟩,.int .i64 0]:=by unfold quoteV quote;rw[if_neg (by rw[<-size_len];exact h1),hpl];rfl
  rw[hpl] at hp;have h1b:decide ((32:Int) < (s.size:Int))=false:=by simp;omega
  have HQ:=Lib.hid hq;have HP:=Lib.hid hp;clear hq hp hpl;go_enter Tryz.func242,Tryz.ntmps242;go_wp2_with fail;refine HP.out.mono ?_;rintro e w1 ⟨rfl,rfl⟩;go_wp2_with fail
  go_loop [4,5] (fun ov ix=>∃ (o:ByteArray) (i:Nat),ov=.string o/\ix=.int .i64 i/\i<=s.size/\o.size<=1+2 * i/\Hid (o.data.toList=34::escL (s.data.toList.take i))) (fun _ ix=>s.size - (RowKit.intOf ix).toNat)
  case atStart=>exact⟨⟨#[34]⟩,0,rfl,rfl,by omega,by decide,Lib.hid rfl⟩
  obtain⟨o,i,rfl,rfl,hi,ho,hol⟩:=hrel;by_cases hlt:i < s.size
  · have hsn:=take_doc s i hlt;have hasz:=app_size o s i hlt;have hal:=app_one o s i hlt;have hasz2:=app_size (o++(⟨#[92]⟩:ByteArray)) s i hlt;have hal2:=app_one (o++(⟨#[92]⟩:ByteArray)) s i hlt;have h92:(o++(⟨#[92]⟩:ByteArray)).data.toList=o.data.toList++[92]:=data_app _ _;have h92s:(o++(⟨#[92]⟩:ByteArray)).size=o.size+1:=by rw[size_len,h92,size_len];simp
    have hsl:=slice_one s i i ((i:Int)+1) rfl rfl hlt;have HS:=Lib.hid hsn;have HA:=Lib.hid hal;have HA2:=Lib.hid hal2;have H92:=Lib.hid h92;have b1:(o++s.extract i (i+1)).size<=1+2 * (i+1):=by omega
    have b2:((o++(⟨#[92]⟩:ByteArray))++s.extract i (i+1)).size<=1+2 * (i+1):=by omega
    have b3:(o++(⟨#[92]⟩:ByteArray)).size<=2+2 * i:=by omega
    clear hsn hasz hal hasz2 hal2 h92 h92s;by_cases c34:s[i].toNat=34
    · have hb:s[i]=34:=UInt8.toNat_inj.1 c34;have HB:=Lib.hid hb;obtain⟨e1,e2⟩:=eq_facts (x:=(s[i].toNat:Int)) (k:=34) (by omega);clear hb c34;go_wp2_with fail
      go_round
      case rel=>exact⟨_,i+1,rfl,by go_num,by omega,b2,Lib.hid (by rw[HA2.out,H92.out,hol.out,HS.out,escL_doc,HB.out];simp[escB])⟩
      case measure=>simp[RowKit.intOf];omega
    by_cases c92:s[i].toNat=92
    · have hb:s[i]=92:=UInt8.toNat_inj.1 c92;have HB:=Lib.hid hb;obtain⟨e1,e2⟩:=ne_facts (x:=(s[i].toNat:Int)) (k:=34) (by omega);obtain⟨e3,e4⟩:=eq_facts (x:=(s[i].toNat:Int)) (k:=92) (by omega);clear hb c34 c92;go_wp2_with fail
      go_round
      case rel=>exact⟨_,i+1,rfl,by go_num,by omega,b2,Lib.hid (by rw[HA2.out,H92.out,hol.out,HS.out,escL_doc,HB.out];simp[escB])⟩
      case measure=>simp[RowKit.intOf];omega
    have hes:¬ (s[i]=34\/s[i]=92):=fun h=>h.elim (fun e=>c34 (by rw[e];rfl)) (fun e=>c92 (by rw[e];rfl))
    have HES:=Lib.hid hes;obtain⟨e1,e2⟩:=ne_facts (x:=(s[i].toNat:Int)) (k:=34) (by omega);obtain⟨e3,e4⟩:=ne_facts (x:=(s[i].toNat:Int)) (k:=92) (by omega);clear hes c34 c92;go_wp2_with fail
    go_round
    case rel=>exact⟨_,i+1,rfl,by go_num,by omega,b1,Lib.hid (by rw[HA.out,hol.out,HS.out,escL_doc,show escB s[i]=[s[i]] from if_neg HES.out];simp)⟩
    case measure=>simp[RowKit.intOf];omega
  obtain rfl:i=s.size:=by omega
  have hge:¬ ((s.size:Int) < (s.size:Int)):=by omega
  go_wp2_with fail;go_returns;refine⟨ret_val ?_,rfl⟩
  have hfin:o++(⟨#[34]⟩:ByteArray)=⟨(34::(escL s.data.toList++[34])).toArray⟩:=by
    apply ByteArray.ext;apply Array.toList_inj.1;rw[data_app,hol.out,List.take_of_length_le (by rw[<-size_len];exact Nat.le_refl _)]
    rfl
  rw[HQ.out,<- hfin];rfl
end Go.Proofs.YtjaeedbjknejdaaGreatDoor.Qo

namespace Go.Proofs.YtjaeedbjknejdaaGreatDoor.Qo
open Go.RowKit Go.Lib Fx Lx
theorem replace_any (B rb g cap:Nat)(s:ByteArray)(w:World)(hs:s.size<=32)(hB:B<=rb)(hb:w.heap[rb]? = some (.cells #[.int .u32 0,.int .i32 0,.int .u32 0,.nilIface,.slice (some ⟨g,0,none⟩) 4 cap] 354 (0,0)))
    (hg:∀ j u,oldnew[j]? = some u->w.cell? ⟨g,j,none⟩=some u) (hne:g ≠ rb) :
    Calls Tryz.prog 296 #[.pointer (some ⟨rb,0,none⟩),.string s] w fun e w'=>e=.returned (.string ⟨(escL s.data.toList).toArray⟩)/\Below B w w':=by
  have c0:w.cell? ⟨rb,0,none⟩=some (.int .u32 0):=cell_of_blk hb 0;have c1:w.cell? ⟨rb,1,none⟩=some (.int .i32 0):=cell_of_blk hb 1;have f0:=frozen_of_blk hb 0;have f1:=frozen_of_blk hb 1;have hlt:=(Array.getElem?_eq_some_iff.1 hb).1;have hb1:=heap_setCell_same w rb 1 _ 354 (.int .i32 1) hb
  have hg1:∀ j u,oldnew[j]? = some u->(w.setCell ⟨rb,1,none⟩ (.int .i32 1)).cell? ⟨g,j,none⟩=some u:=fun j u h=>by
    rw[World.cell?_setCell_other _ ⟨rb,1,none⟩ ⟨g,j,none⟩ _ (fun e=>hne (by injection e with e;exact e.symm))];exact hg j u h
  have hbo:=buildOnce_any B rb g cap (w.setCell ⟨rb,1,none⟩ (.int .i32 1)) hB hb1 (hg1 0 _ rfl) (hg1 1 _ rfl) (hg1 2 _ rfl) (hg1 3 _ rfl)
  have hdo:=do_first rb (.pointer (some ⟨rb,0,none⟩)) w (Built B rb (w.setCell ⟨rb,1,none⟩ (.int .i32 1))) c0 c1 f0 f1 hbo (fun w' h=>by
    obtain⟨k,h1,_⟩:=h
    exact⟨cell_of_blk h1 0,cell_of_blk h1 1,frozen_of_blk h1 0,frozen_of_blk h1 1⟩)
  have HD:=Lib.hid hdo;have hbw:Below B w (w.setCell ⟨rb,1,none⟩ (.int .i32 1)):=(Below.refl B w).setCell (p:=⟨rb,1,none⟩) hB _;have HBW:=Lib.hid hbw;clear hb hg hb1 hg1 hbo hdo c0 c1 f0 f1 hbw;have hmf:∀ (fn:Fn) (first cap:Array Value) (w:World),(Instr.makeFunc fn first cap).run Tryz.prog w=.ok (.func fn first cap) w:=fun _ _ _ _=>rfl
  go_enter Tryz.func296,Tryz.ntmps296;go_wp2_with fail;refine HD.out.mono ?_;rintro e w1 ⟨rfl,wq,⟨k,hq,hr,hx⟩,rfl⟩;have hq1:=heap_setCell_same wq.drew rb 0 _ 354 (.int .u32 1) hq;have hq2:=heap_setCell_same (wq.drew.setCell ⟨rb,0,none⟩ (.int .u32 1)) rb 1 _ 354 (.int .i32 0) hq1
  have hr2:RepAt ((wq.drew.setCell ⟨rb,0,none⟩ (.int .u32 1)).setCell ⟨rb,1,none⟩ (.int .i32 0)) k:=by
    refine hr.kept (by simp only[World.setCell,Array.size_modify];exact Nat.le_refl _) fun p C T fz hT hp=>?_
    have hpn:p ≠ rb:=by
      rintro rfl;rw[hq] at hp;injection hp with hp;injection hp with _ ht;rcases hT with rfl | rfl | rfl <;> exact absurd ht (by decide)
    rw[heap_setCell_other _ ⟨rb,1,none⟩ p _ hpn,heap_setCell_other _ ⟨rb,0,none⟩ p _ hpn];exact hp
  have hx2:Below B w ((wq.drew.setCell ⟨rb,0,none⟩ (.int .u32 1)).setCell ⟨rb,1,none⟩ (.int .i32 0)):=((HBW.out.trans hx).drew.setCell (p:=⟨rb,0,none⟩) hB _).setCell (p:=⟨rb,1,none⟩) hB _;have d3:((wq.drew.setCell ⟨rb,0,none⟩ (.int .u32 1)).setCell ⟨rb,1,none⟩ (.int .i32 0)).cell? ⟨rb,3,none⟩=some (.iface 371 (.pointer (some ⟨k,0,none⟩))):=cell_of_blk hq2 3;generalize (wq.drew.setCell ⟨rb,0,none⟩ (.int .u32 1)).setCell ⟨rb,1,none⟩ (.int .i32 0)=w1 at hr2 hx2 d3 ⊢;have HR:=Lib.hid hr2;clear hq hr hx hq1 hq2 hr2 HD;go_wp2_with fail;refine(repl_any k s w1 hs HR.out).mono ?_;rintro e w2 ⟨rfl,x2⟩;go_wp2_with fail;go_ret;exact⟨rfl,hx2.trans (x2.mono (by have:=(Array.getElem?_eq_some_iff.1 HR.out.choose_spec.choose_spec.choose_spec.choose_spec.1.blk).1;have:=hx2.size;omega))⟩
theorem Ext.trans' {a b c:World}(h:Ext a b)(k:Below a.heap.size b c):Ext a c:=Below.trans h k
theorem quote_any (s:ByteArray)(w:World)(hs:s.size<=9223372036854775807):
    Calls Tryz.prog 277 #[.string s] w fun e w'=>e=.returned (quoteV s.data.toList)/\Ext w w':=by
  by_cases h1:32 < s.size
  · have hq:quoteV s.data.toList=.tuple #[.string ⟨#[]⟩,.int .i64 2]:=by unfold quoteV quote;rw[if_pos (by rw[<-size_len];exact h1)]
    have HQ:=Lib.hid hq;clear hq;go_enter Tryz.func277,Tryz.ntmps277;go_wp2_with fail;go_returns;exact⟨ret_val HQ.out.symm,Ext.refl _⟩
  have hp:=plain_any s (by omega) w;have h1':s.size<=32:=by omega
  cases hpl:plainB s.data.toList
  · have hq:quoteV s.data.toList=.tuple #[.string ⟨#[]⟩,.int .i64 1]:=by unfold quoteV quote;rw[if_neg (by rw[<-size_len];exact h1),hpl];rfl
    rw[hpl] at hp;have HQ:=Lib.hid hq;have HP:=Lib.hid hp;clear hq hp hpl;go_enter Tryz.func277,Tryz.ntmps277;go_wp2_with fail;refine HP.out.mono ?_;rintro e w1 ⟨rfl,x1⟩;go_wp2_with fail;go_returns;exact⟨ret_val HQ.out.symm,x1⟩
  have hq:quoteV s.data.toList=.tuple #[.string ⟨(34::(escL s.data.toList++[34])).toArray⟩,.int .i64 0]:=by unfold quoteV quote;rw[if_neg (by rw[<-size_len];exact h1),hpl];rfl
  have hel:=escL_le s.data.toList;rw[<-size_len] at hel;have hes:(⟨(escL s.data.toList).toArray⟩:ByteArray).size<=64:=by rw[size_mk];omega
  rw[hpl] at hp;have HQ:=Lib.hid hq;have HP:=Lib.hid hp;clear hq hp hpl hel;go_enter Tryz.func277,Tryz.ntmps277;go_wp2_with fail;refine HP.out.mono ?_;rintro e w1 ⟨rfl,x1⟩;go_wp2_with fail;refine(newReplacer_any w1).mono ?_;rintro e w2 ⟨rb,g,cap,rfl,hrb,hb,hg,hne,x2⟩;have HB:=Lib.hid hb;have HG:=Lib.hid hg;clear hb hg;go_wp2_with fail;refine(replace_any w1.heap.size rb g cap s w2 h1' hrb HB.out HG.out hne).mono ?_;rintro e w3 ⟨rfl,x3⟩;have hts:=three_app (escL s.data.toList);generalize (⟨(escL s.data.toList).toArray⟩:ByteArray)=E at hes hts ⊢;have HT:=Lib.hid hts;clear hts;go_wp2_with fail;go_returns;refine⟨ret_val ?_,x1.trans (Ext.trans' x2 x3)⟩;rw[HQ.out,<- HT.out];rfl
end Go.Proofs.YtjaeedbjknejdaaGreatDoor.Qo

namespace Go.Proofs.YtjaeedbjknejdaaGreatDoor.Tr
open Go.RowKit Go.Sort Go.Lib Go.Shelf Fx Lx
theorem value_any (s:ByteArray)(w:World)(hs:s.size < 4294967281)(he:Env w):
    Calls Tryz.prog 241 #[.string s] w fun e w'=>e=.returned (.string ⟨(valueT s).toArray⟩)/\Ext w w':=by
  have hnm:=isName_any s (by omega) w;have hps:=parse_any s w hs he;have hqt:=fun w'=>Qo.quote_any s w' (by omega)
  obtain⟨V,hV⟩:∃ V:ByteArray,V=⟨(valueT s).toArray⟩:=⟨_,rfl⟩;rw[<-hV];have hmk:(⟨s.data.toList.toArray⟩:ByteArray)=s:=Lib.mk_data s;unfold valueT at hV;unfold Qo.quoteV at hqt;generalize nameB s.data.toList=p at *;generalize (parse s.data.toList).1=u at *;generalize (parse s.data.toList).2=k at *;generalize (quote s.data.toList).1=t at *;generalize (quote s.data.toList).2=r at *;have HN:=Lib.hid hnm;have HP:=Lib.hid hps;have HQ:=Lib.hid hqt;clear hnm hps hqt hs he;cases p
  · rw[if_neg (by decide)] at hV;by_cases hk:k=0
    · rw[if_pos hk,hmk] at hV;subst hk;have hf:=Lib.hid hV;clear hV;go_enter Tryz.func241,Tryz.ntmps241;go_wp2_with (first | (go_at_call 58;refine HN.out.mono ?_;rintro e w3 ⟨rfl,rfl⟩) | (go_at_call 110;refine HP.out.mono ?_;rintro e w1 ⟨rfl,x1⟩));go_ret;exact⟨by rw[hf.out];rfl,x1⟩
    rw[if_neg hk] at hV;obtain⟨f0,f0'⟩:=ne_facts hk;have hf:=Lib.hid hV;clear hV hk;go_enter Tryz.func241,Tryz.ntmps241;go_wp2_with (first | (go_at_call 58;refine HN.out.mono ?_;rintro e w3 ⟨rfl,rfl⟩) | (go_at_call 110;refine HP.out.mono ?_;rintro e w1 ⟨rfl,x1⟩) | (go_at_call 277;refine(HQ.out _).mono ?_;rintro e w2 ⟨rfl,x2⟩));go_ret;exact⟨by rw[hf.out];rfl,x1.trans x2⟩
  rw[if_pos rfl,hmk] at hV;have hf:=Lib.hid hV;clear hV;go_enter Tryz.func241,Tryz.ntmps241;go_wp2_with (go_at_call 58;refine HN.out.mono ?_;rintro e w3 ⟨rfl,rfl⟩);go_ret;exact⟨by rw[hf.out];rfl,Ext.refl _⟩
end Go.Proofs.YtjaeedbjknejdaaGreatDoor.Tr

namespace Go.Proofs.YtjaeedbjknejdaaGreatDoor.Tr
open Go.RowKit Go.Sort Go.Lib Go.Shelf Fx Lx
def strsV (L:List (List UInt8)):List Value:=L.map (fun l=>.string ⟨l.toArray⟩)
theorem sepT_join (sep:List UInt8):∀ L:List (List UInt8),sepT sep L=Lib.join L sep
  | []=>rfl
  | [x]=>by rw[sepT,Lib.join_one]
  | x::y::r=>by
    rw[sepT,sepT_join sep (y::r),Lib.join_cons,Lib.join_cons];simp[Lib.joinTail,List.append_assoc]
theorem mapBack (L:List (List UInt8)):(L.map (fun l=>(⟨l.toArray⟩:ByteArray))).map (fun b=>b.data.toList)=L:=by
  rw[List.map_map];exact List.map_id L
theorem kv_app (k:ByteArray)(v:List UInt8):k++(⟨#[61]⟩:ByteArray)++(⟨v.toArray⟩:ByteArray)=⟨(k.data.toList++61::v).toArray⟩:=by
  apply ByteArray.ext;simp[ByteArray.data_append]
theorem br_app (l:List UInt8):(⟨#[91]⟩:ByteArray)++(⟨l.toArray⟩:ByteArray)++(⟨#[93]⟩:ByteArray)=⟨(91::(l++[93])).toArray⟩:=by
  apply ByteArray.ext;simp[ByteArray.data_append]
theorem sepT_le (sep x:List UInt8):∀ L:List (List UInt8),x ∈ L->x.length<=(sepT sep L).length
  | [y],h=>by rw[List.mem_singleton] at h;subst h;rw[sepT];exact Nat.le_refl _
  | y::z::r,h=>by
    rw[sepT,List.length_append,List.length_append];rcases List.mem_cons.1 h with rfl | h
    · omega
    · have:=sepT_le sep x (z::r) h;omega
theorem attr_le (L:List Two)(q:Two)(h:q ∈ L):q.1.size+1+(valueT q.2).length<=(listedT L).length:=by
  have:=sepT_le [44,32] (attrT q) (L.map attrT) (List.mem_map_of_mem h);unfold listedT;rw[List.length_cons,List.length_append]
  have e:(attrT q).length=q.1.size+((valueT q.2).length+1):=by
    unfold attrT;rw[List.length_append,List.length_cons,<- size_len]
  omega
theorem listed_any (a:Option Addr)(L:List Two)(cap:Nat)(w:World)(h:TwoIn w a L)(hL:L.length<=2000000)(hs:∀ q ∈ L,q.2.size < 4294967281)(hlen:(listedT L).length<=140737488355328)(he:Env w):
    Calls Tryz.prog 240 #[.slice a L.length cap] w fun e w'=>e=.returned (.string ⟨(listedT L).toArray⟩)/\Ext w w':=by
  obtain⟨i0,hi,hz0,hz1,hz2⟩:=info_parts info_str;obtain⟨V,hV⟩:∃ V:ByteArray,V=⟨(listedT L).toArray⟩:=⟨_,rfl⟩;rw[<-hV];have HV:=Lib.hid hV;have HLEN:=Lib.hid hlen;obtain⟨N,hN⟩:∃ N,N=L.length:=⟨_,rfl⟩;rw[<-hN] at hL ⊢;have HN:=Lib.hid hN;have HI:=Lib.hid h;have HS:=Lib.hid hs;have HE:=Lib.hid he;clear hV hlen hN h hs he;go_enter Tryz.func240,Tryz.ntmps240;go_wp2
  go_loopw [3,8] (fun p i' wr=>∃ (k:Nat) (v:Value),k<=N/\v=p/\i'=.int .i64 k/\Ext w wr/\Hid (wr.ownsRow w.heap.size 9 1 v k (strsV ((L.take k).map attrT)))) (fun _ i' _=>N - (RowKit.intOf i').toNat)
  case atStart=>exact⟨0,_,by omega,rfl,rfl,Ext.refl _,Lib.hid (by rw[List.take_zero];exact World.ownsRow_nil _ _ _ _)⟩
  obtain⟨k,v,hk,rfl,rfl,hx,hown⟩:=hrel;by_cases hlt:k < N
  · have hkl:k < L.length:=by rw[<-HN.out];exact hlt
    obtain⟨g,o,rfl,c0,c1⟩:=(HI.out.ext hx) k hkl;obtain⟨n,d,hq⟩:∃ n d,L[k]=(n,d):=⟨_,_,rfl⟩;rw[hq] at c0 c1;have hds:=HS.out _ (List.getElem_mem hkl);rw[hq] at hds;have hxb:Ext wr (wr.alloc (.cells #[.string n,.string d] 69)):=(Ext.refl _).alloc _;have hval:=fun w1 (x:Ext (wr.alloc (.cells #[.string n,.string d] 69)) w1)=>value_any d w1 hds (HE.out.ext ((hx.trans hxb).trans x))
    obtain⟨t,ht⟩:∃ t:ByteArray,t=⟨(valueT d).toArray⟩:=⟨_,rfl⟩;rw[<-ht] at hval;have hle:=attr_le L _ (List.getElem_mem hkl);rw[hq] at hle;have n9:n.size<=140737488355328:=by have:=HLEN.out;dsimp only at hle;omega
    have t9:t.size<=140737488355328:=by have:=HLEN.out;dsimp only at hle;rw[ht];simp[ByteArray.size];omega
    clear hle
    have hpart:strsV ((L.take (k+1)).map attrT)=strsV ((L.take k).map attrT)++[.string (n++⟨#[61]⟩++t)]:=by
      rw[List.take_succ_eq_append_getElem hkl,List.map_append,hq,ht,kv_app];unfold strsV;rw[List.map_append]
      rfl
    have hadd:∀ w,(Op.stringOp .add n ⟨#[61]⟩).run Tryz.prog w=.ok (.string (n++⟨#[61]⟩)) w:=fun w=>run_string_add_sum w _ _ (by show _+1<=_;omega)
    have hadd2:∀ w,(Op.stringOp .add (n++⟨#[61]⟩) t).run Tryz.prog w=.ok (.string (n++⟨#[61]⟩++t)) w:=fun w=>run_string_add_sum w _ _ (by rw[ByteArray.size_append];show _+1+_<=_;omega)
    have hat:=atr2_cells wr n d;have HVAL:=Lib.hid hval;have HAT:=Lib.hid hat;have HP:=Lib.hid hpart;have hwl:=fun k hk=>(hown.out.lt k hk).2
    have HWL:=Lib.hid hwl;clear hval hat hpart ht hq hds hkl hwl;have e0:=(HAT.out _ (Ext.refl _)).1;have e1:=(HAT.out _ (Ext.refl _)).2;go_wp2_with fail
    go_region_held3 (fun w'=>w'.cell? ⟨wr.heap.size,0,none⟩=some (.string n)/\w'.cell? ⟨wr.heap.size,1,none⟩=some (.string d))
      (first | exact⟨e0,e1⟩ | exact HAT.out _ x1 | exact HAT.out _ (x1.alloc _) | exact s2)
      (first
        | (go_at_call 241;refine(HVAL.out _ ((Ext.refl _).drew)).mono ?_;rintro e w1 ⟨rfl,x1⟩;replace x1:Ext (wr.alloc (.cells #[.string n,.string d] 69)) w1:=((Ext.refl _).drew).trans x1)
        | (refine step_append_lies _ (by rfl) _ _ _ (by rfl) w.heap.size 9 i0 _ 1 16 Tryz.underlying43 hi hz0 hz1 hz2 rfl (by omega) v k (strsV ((L.take k).map attrT)) (by rfl) (own_ext' hown.out ((hxb.trans x1).alloc _))
            ⟨w1.heap.size,0,none⟩ 1 1 [.string (n++⟨#[61]⟩++t)] (by rfl) (by rfl) (World.news_of_block (cs:=#[.string (n++⟨#[61]⟩++t)]) (t:=9) (fr:=(0,0)) (heap_alloc_new w1 _)) (by simp[Value.oneCell'])
            (by omega) (by unfold maxLen;omega) (by omega) (by have:=((hx.trans hxb).trans x1).size;simp;omega) (w1.heap.size+1) (by simp) ?_;intro gg cp w2 hown1 hgrow hat2 hlt2;have s2:w2.cell? ⟨wr.heap.size,0,none⟩=some (.string n)/\w2.cell? ⟨wr.heap.size,1,none⟩=some (.string d):=(by
            have q:=HAT.out _ (x1.alloc (.cells #[.string (n++⟨#[61]⟩++t)] 9));have hsz:=x1.size;simp only[World.size_alloc] at hsz;constructor
            · rw[hgrow.cell_far _ (by simp;omega) (fun e=>absurd (HWL.out _ e.symm) (Nat.lt_irrefl _))];exact q.1
            · rw[hgrow.cell_far _ (by simp;omega) (fun e=>absurd (HWL.out _ e.symm) (Nat.lt_irrefl _))];exact q.2)))
    go_wp2
    go_roundw
    case rel=>exact⟨k+1,_,by omega,rfl,by go_num,(((hx.trans hxb).trans x1).alloc (.cells #[.string (n++⟨#[61]⟩++t)] 9)).grown hgrow (by have:=((hx.trans hxb).trans x1).size;simp;omega) (fun k hk=>(hown.out.lt k hk).1),Lib.hid (by rw[HP.out];exact hown1)⟩
    case measure=>simp[RowKit.intOf];omega
  have hkn:k=L.length:=by have:=HN.out;omega
  have hown':=hown.out;rw[hkn,List.take_length,<- hkn] at hown';obtain⟨J,hJ⟩:∃ J:ByteArray,J=⟨(sepT [44,32] (L.map attrT)).toArray⟩:=⟨_,rfl⟩;have hVJ:V=⟨#[91]⟩++J++⟨#[93]⟩:=by rw[HV.out,hJ,br_app];rfl
  have hJl:J.size+2<=140737488355328:=by
    have:=HLEN.out;unfold listedT at this;rw[List.length_cons,List.length_append] at this;rw[hJ,size_mk];simp only[List.length_cons,List.length_nil] at this;omega
  have hjn:Calls Tryz.prog 133 #[v,.string ⟨#[44,32]⟩] wr fun e w'=>e=.returned (.string J)/\Ext wr w':=by
    rcases hown'.2 with⟨rfl,h0⟩ | ⟨g,cp,cur,rfl,hbg,hg,r1,r2,r3,r4⟩
    · have hL0:L=[]:=List.eq_nil_of_length_eq_zero (by omega);refine(Tryz.strings_Join_none none 0 _ wr).mono ?_;rintro e w' ⟨rfl,rfl⟩;exact⟨by rw[hJ,hL0];rfl,Ext.refl _⟩
    have hc:=Tryz.strings_Join g 0 cp ((L.map attrT).map (fun l=>(⟨l.toArray⟩:ByteArray))) ⟨#[44,32]⟩ wr (fun j x hjx=>by
        have hc:=hown'.cells (g:=g) rfl j (.string x) (by
          unfold strsV;rw[List.getElem?_map] at hjx ⊢;obtain⟨y,hy,rfl⟩:=Option.map_eq_some_iff.1 hjx
          rw[hy];rfl)
        have ha:(⟨g,0,none⟩:Addr).add j=⟨g,0+j,none⟩:=by unfold Addr.add;split <;> simp_all
        rw[ha] at hc;exact hc) (Array.getElem?_eq_some_iff.1 hg).1 (by simp;omega) (by simp;omega) (by
        rw[mapBack,show(⟨#[44,32]⟩:ByteArray).data.toList=[44,32] from rfl,<- sepT_join]
        rw[hJ,size_mk] at hJl;omega)
    rw[mapBack,show(⟨#[44,32]⟩:ByteArray).data.toList=[44,32] from rfl,<- sepT_join,<- hJ,List.length_map,List.length_map,<- hkn] at hc;exact hc
  have hadd:∀ w,(Op.stringOp .add ⟨#[91]⟩ J).run Tryz.prog w=.ok (.string (⟨#[91]⟩++J)) w:=fun w=>run_string_add_sum w _ _ (by show 1+_<=_;omega)
  have hadd2:∀ w,(Op.stringOp .add (⟨#[91]⟩++J) ⟨#[93]⟩).run Tryz.prog w=.ok (.string (⟨#[91]⟩++J++⟨#[93]⟩)) w:=fun w=>run_string_add_sum w _ _ (by rw[ByteArray.size_append];show 1+_+1<=_;omega)
  have HJN:=Lib.hid hjn;have HVJ:=Lib.hid hVJ;clear hjn hVJ hJ hkn hown' hown;go_wp2_with (go_at_call 133;refine HJN.out.mono ?_;rintro e w1 ⟨rfl,x1⟩);go_returns;exact⟨by rw[HVJ.out];rfl,hx.trans x1⟩
theorem sp_app (l:List UInt8):(⟨#[32]⟩:ByteArray)++(⟨l.toArray⟩:ByteArray)++(⟨#[59]⟩:ByteArray)=⟨(32::(l++[59])).toArray⟩:=by
  apply ByteArray.ext;simp[ByteArray.data_append]
theorem tail_any (a:Option Addr)(L:List Two)(cap:Nat)(w:World)(h:TwoIn w a L)(hL:L.length<=2000000)(hs:∀ q ∈ L,q.2.size < 4294967281)(hlen:(tailT L).length<=140737488355328)(he:Env w):
    Calls Tryz.prog 239 #[.slice a L.length cap] w fun e w'=>e=.returned (.string ⟨(tailT L).toArray⟩)/\Ext w w':=by
  by_cases h0:L=[]
  · subst h0;clear h hs hlen;go_enter Tryz.func239,Tryz.ntmps239;go_wp2;go_ret;exact⟨rfl,Ext.refl _⟩
  have hT:tailT L=32::(listedT L++[59]):=by
    unfold tailT;rw[if_neg (by simpa using h0)]
  rw[hT] at hlen ⊢;have hl:=listed_any a L cap w h hL hs (by simp at hlen;omega) he;rw[<-sp_app];have t9:(⟨(listedT L).toArray⟩:ByteArray).size<=140737488355328:=by simp[ByteArray.size] at hlen ⊢;omega
  generalize (⟨(listedT L).toArray⟩:ByteArray)=T at *
  have f1:((L.length:Int) == 0)=false:=by
    rw[beq_eq_false_iff_ne];have:=List.length_pos_iff.2 h0;omega
  generalize L.length=N at *;have HL:=Lib.hid hl;clear hl h hs hlen hT he h0;go_enter Tryz.func239,Tryz.ntmps239;go_wp2_with (go_at_call 240;refine HL.out.mono ?_;rintro e w1 ⟨rfl,x1⟩);go_ret;exact⟨rfl,x1⟩
end Go.Proofs.YtjaeedbjknejdaaGreatDoor.Tr

namespace Go.Proofs.YtjaeedbjknejdaaGreatDoor.Qo
open Go.RowKit Go.Shelf Fx Lx
theorem bytes_str (s:ByteArray):Lib.strCells s=Lib.byteCells s.data.toList:=by
  unfold Lib.strCells Lib.byteCells;simp
end Go.Proofs.YtjaeedbjknejdaaGreatDoor.Qo
