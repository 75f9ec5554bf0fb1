/- Packed texts: QuoQuote, TreVal, TreList, BuildStr, TreWr, TreLine -/
import Derived.Test.YtjaeedbjknejdaaGreatDoorPd35
import Derived.Lib.FrozenHead
set_option linter.unusedVariables false
set_option linter.unusedSimpArgs false
set_option maxHeartbeats 16000000
set_option maxRecDepth 100000
namespace Go.Proofs.YtjaeedbjknejdaaGreatDoor.Qo
open Go.RowKit Go.Lib Fx Lx
theorem replace_any (B rb g cap:Nat)(s:ByteArray)(w:World)(hs:s.size<=32)(hB:B<=rb)(hb:w.heap[rb]? = some (.cells #[.int .u32 0,.int .i32 0,.int .u32 0,.nilIface,.slice (some ⟨g,0,none⟩) 4 cap] 354 (0,0)))
  (hg:∀ j u,oldnew[j]? = some u->w.cell? ⟨g,j,none⟩=some u) (hne:g ≠ rb) :
  Calls Tryz.prog 296 #[.pointer (some ⟨rb,0,none⟩),.string s] w fun e w'=>e=.returned (.string ⟨(escL s.data.toList).toArray⟩)/\Below B w w':=by
 have c0:w.cell? ⟨rb,0,none⟩=some (.int .u32 0):=cell_of_blk hb 0;have c1:w.cell? ⟨rb,1,none⟩=some (.int .i32 0):=cell_of_blk hb 1;have f0:=frozen_of_blk hb 0;have f1:=frozen_of_blk hb 1;have hlt:=(Array.getElem?_eq_some_iff.1 hb).1;have hb1:=heap_setCell_same w rb 1 _ 354 (.int .i32 1) hb
 have hg1:∀ j u,oldnew[j]? = some u->(w.setCell ⟨rb,1,none⟩ (.int .i32 1)).cell? ⟨g,j,none⟩=some u:=fun j u h=>by
  rw[World.cell?_setCell_other _ ⟨rb,1,none⟩ ⟨g,j,none⟩ _ (fun e=>hne (by injection e with e;exact e.symm))];exact hg j u h
 have hbo:=buildOnce_any B rb g cap (w.setCell ⟨rb,1,none⟩ (.int .i32 1)) hB hb1 (hg1 0 _ rfl) (hg1 1 _ rfl) (hg1 2 _ rfl) (hg1 3 _ rfl)
 have hdo:=do_first rb (.pointer (some ⟨rb,0,none⟩)) w (Built B rb (w.setCell ⟨rb,1,none⟩ (.int .i32 1))) c0 c1 f0 f1 hbo (fun w' h=>by
  obtain⟨k,h1,_⟩:=h
  exact⟨cell_of_blk h1 0,cell_of_blk h1 1,frozen_of_blk h1 0,frozen_of_blk h1 1⟩)
 have HD:=hid hdo;have hbw:Below B w (w.setCell ⟨rb,1,none⟩ (.int .i32 1)):=(Below.refl B w).setCell (p:=⟨rb,1,none⟩) hB _;have HBW:=hid hbw;clear hb hg hb1 hg1 hbo hdo c0 c1 f0 f1 hbw;have hmf:∀ (fn:Fn) (first cap:Array Value) (w:World),(Instr.makeFunc fn first cap).run Tryz.prog w=.ok (.func fn first cap) w:=fun _ _ _ _=>rfl
 go_enter Tryz.func296,Tryz.ntmps296;go_wp2_with fail;refine HD.out.mono ?_;rintro e w1 ⟨rfl,wq,⟨k,hq,hr,hx⟩,rfl⟩;have hq1:=heap_setCell_same wq.drew rb 0 _ 354 (.int .u32 1) hq;have hq2:=heap_setCell_same (wq.drew.setCell ⟨rb,0,none⟩ (.int .u32 1)) rb 1 _ 354 (.int .i32 0) hq1
 have hr2:RepAt ((wq.drew.setCell ⟨rb,0,none⟩ (.int .u32 1)).setCell ⟨rb,1,none⟩ (.int .i32 0)) k:=by
  refine hr.kept (by simp only[World.setCell,Array.size_modify];exact Nat.le_refl _) fun p C T fz hT hp=>?_
  have hpn:p ≠ rb:=by
   rintro rfl;rw[hq] at hp;injection hp with hp;injection hp with _ ht;rcases hT with rfl | rfl | rfl <;> exact absurd ht (by decide)
  rw[heap_setCell_other _ ⟨rb,1,none⟩ p _ hpn,heap_setCell_other _ ⟨rb,0,none⟩ p _ hpn];exact hp
 have hx2:Below B w ((wq.drew.setCell ⟨rb,0,none⟩ (.int .u32 1)).setCell ⟨rb,1,none⟩ (.int .i32 0)):=((HBW.out.trans hx).drew.setCell (p:=⟨rb,0,none⟩) hB _).setCell (p:=⟨rb,1,none⟩) hB _;have d3:((wq.drew.setCell ⟨rb,0,none⟩ (.int .u32 1)).setCell ⟨rb,1,none⟩ (.int .i32 0)).cell? ⟨rb,3,none⟩=some (.iface 371 (.pointer (some ⟨k,0,none⟩))):=cell_of_blk hq2 3;generalize (wq.drew.setCell ⟨rb,0,none⟩ (.int .u32 1)).setCell ⟨rb,1,none⟩ (.int .i32 0)=w1 at hr2 hx2 d3 ⊢;have HR:=hid hr2;clear hq hr hx hq1 hq2 hr2 HD;go_wp2_with fail;refine(repl_any k s w1 hs HR.out).mono ?_;rintro e w2 ⟨rfl,x2⟩;go_wp2_with fail;go_ret;exact⟨rfl,hx2.trans (x2.mono (by have:=(Array.getElem?_eq_some_iff.1 HR.out.choose_spec.choose_spec.choose_spec.choose_spec.1.blk).1;have:=hx2.size;omega))⟩
theorem Ext.trans' {a b c:World}(h:Ext a b)(k:Below a.heap.size b c):Ext a c:=Below.trans h k
theorem quote_any (s:ByteArray)(w:World)(hs:s.size<=9223372036854775807):
  Calls Tryz.prog 277 #[.string s] w fun e w'=>e=.returned (quoteV s.data.toList)/\Ext w w':=by
 by_cases h1:32 < s.size
 ·have hq:quoteV s.data.toList=.tuple #[.string ⟨#[]⟩,.int .i64 2]:=by unfold quoteV quote;rw[if_pos (by rw[<-size_len];exact h1)]
  have HQ:=hid hq;clear hq;go_enter Tryz.func277,Tryz.ntmps277;go_wp2_with fail;go_returns;exact⟨ret_val HQ.out.symm,Ext.refl _⟩
 have hp:=plain_any s (by omega) w;have h1':s.size<=32:=by omega
 cases hpl:plainB s.data.toList
 ·have hq:quoteV s.data.toList=.tuple #[.string ⟨#[]⟩,.int .i64 1]:=by unfold quoteV quote;rw[if_neg (by rw[<-size_len];exact h1),hpl];rfl
  rw[hpl] at hp;have HQ:=hid hq;have HP:=hid hp;clear hq hp hpl;go_enter Tryz.func277,Tryz.ntmps277;go_wp2_with fail;refine HP.out.mono ?_;rintro e w1 ⟨rfl,x1⟩;go_wp2_with fail;go_returns;exact⟨ret_val HQ.out.symm,x1⟩
 have hq:quoteV s.data.toList=.tuple #[.string ⟨(34::(escL s.data.toList++[34])).toArray⟩,.int .i64 0]:=by unfold quoteV quote;rw[if_neg (by rw[<-size_len];exact h1),hpl];rfl
 have hel:=escL_le s.data.toList;rw[<-size_len] at hel;have hes:(⟨(escL s.data.toList).toArray⟩:ByteArray).size<=64:=by rw[size_mk];omega
 rw[hpl] at hp;have HQ:=hid hq;have HP:=hid hp;clear hq hp hpl hel;go_enter Tryz.func277,Tryz.ntmps277;go_wp2_with fail;refine HP.out.mono ?_;rintro e w1 ⟨rfl,x1⟩;go_wp2_with fail;refine(newReplacer_any w1).mono ?_;rintro e w2 ⟨rb,g,cap,rfl,hrb,hb,hg,hne,x2⟩;have HB:=hid hb;have HG:=hid hg;clear hb hg;go_wp2_with fail;refine(replace_any w1.heap.size rb g cap s w2 h1' hrb HB.out HG.out hne).mono ?_;rintro e w3 ⟨rfl,x3⟩;have hts:=three_app (escL s.data.toList);generalize (⟨(escL s.data.toList).toArray⟩:ByteArray)=E at hes hts ⊢;have HT:=hid hts;clear hts;go_wp2_with fail;go_returns;refine⟨ret_val ?_,x1.trans (Ext.trans' x2 x3)⟩;rw[HQ.out,<- HT.out];rfl
end Go.Proofs.YtjaeedbjknejdaaGreatDoor.Qo

namespace Go.Proofs.YtjaeedbjknejdaaGreatDoor.Tr
open Go.RowKit Go.Sort Go.Lib Go.Shelf Fx Lx
theorem value_any (s:ByteArray)(w:World)(hs:s.size < 4294967281)(he:Env w):
  Calls Tryz.prog 241 #[.string s] w fun e w'=>e=.returned (.string ⟨(valueT s).toArray⟩)/\Ext w w':=by
 have hnm:=isName_any s (by omega) w;have hps:=parse_any s w hs he;have hqt:=fun w'=>Qo.quote_any s w' (by omega)
 obtain⟨V,hV⟩:∃ V:ByteArray,V=⟨(valueT s).toArray⟩:=⟨_,rfl⟩;rw[<-hV];have hmk:(⟨s.data.toList.toArray⟩:ByteArray)=s:=Lib.mk_data s;unfold valueT at hV;unfold Qo.quoteV at hqt;generalize nameB s.data.toList=p at *;generalize (parse s.data.toList).1=u at *;generalize (parse s.data.toList).2=k at *;generalize (quote s.data.toList).1=t at *;generalize (quote s.data.toList).2=r at *;have HN:=hid hnm;have HP:=hid hps;have HQ:=hid hqt;clear hnm hps hqt hs he;cases p
 ·rw[if_neg (by decide)] at hV;by_cases hk:k=0
  ·rw[if_pos hk,hmk] at hV;subst hk;have hf:=hid hV;clear hV;go_enter Tryz.func241,Tryz.ntmps241;go_wp2_with (first | (go_at_call 58;refine HN.out.mono ?_;rintro e w3 ⟨rfl,rfl⟩) | (go_at_call 110;refine HP.out.mono ?_;rintro e w1 ⟨rfl,x1⟩));go_ret;exact⟨by rw[hf.out];rfl,x1⟩
  rw[if_neg hk] at hV;obtain⟨f0,f0'⟩:=ne_facts hk;have hf:=hid hV;clear hV hk;go_enter Tryz.func241,Tryz.ntmps241;go_wp2_with (first | (go_at_call 58;refine HN.out.mono ?_;rintro e w3 ⟨rfl,rfl⟩) | (go_at_call 110;refine HP.out.mono ?_;rintro e w1 ⟨rfl,x1⟩) | (go_at_call 277;refine(HQ.out _).mono ?_;rintro e w2 ⟨rfl,x2⟩));go_ret;exact⟨by rw[hf.out];rfl,x1.trans x2⟩
 rw[if_pos rfl,hmk] at hV;have hf:=hid hV;clear hV;go_enter Tryz.func241,Tryz.ntmps241;go_wp2_with (go_at_call 58;refine HN.out.mono ?_;rintro e w3 ⟨rfl,rfl⟩);go_ret;exact⟨by rw[hf.out];rfl,Ext.refl _⟩
end Go.Proofs.YtjaeedbjknejdaaGreatDoor.Tr

namespace Go.Proofs.YtjaeedbjknejdaaGreatDoor.Tr
open Go.RowKit Go.Sort Go.Lib Go.Shelf Fx Lx
def strsV (L:List (List UInt8)):List Value:=L.map (fun l=>.string ⟨l.toArray⟩)
theorem sepT_join (sep:List UInt8):∀ L:List (List UInt8),sepT sep L=Lib.join L sep
 | []=>rfl
 | [x]=>by rw[sepT,Lib.join_one]
 | x::y::r=>by
  rw[sepT,sepT_join sep (y::r),Lib.join_cons,Lib.join_cons];simp[Lib.joinTail,List.append_assoc]
theorem mapBack (L:List (List UInt8)):(L.map (fun l=>(⟨l.toArray⟩:ByteArray))).map (fun b=>b.data.toList)=L:=by
 rw[List.map_map];exact List.map_id L
theorem kv_app (k:ByteArray)(v:List UInt8):k++(⟨#[61]⟩:ByteArray)++(⟨v.toArray⟩:ByteArray)=⟨(k.data.toList++61::v).toArray⟩:=by
 apply ByteArray.ext;simp[ByteArray.data_append]
theorem br_app (l:List UInt8):(⟨#[91]⟩:ByteArray)++(⟨l.toArray⟩:ByteArray)++(⟨#[93]⟩:ByteArray)=⟨(91::(l++[93])).toArray⟩:=by
 apply ByteArray.ext;simp[ByteArray.data_append]
theorem sepT_le (sep x:List UInt8):∀ L:List (List UInt8),x ∈ L->x.length<=(sepT sep L).length
 | [y],h=>by rw[List.mem_singleton] at h;subst h;rw[sepT];exact Nat.le_refl _
 | y::z::r,h=>by
  rw[sepT,List.length_append,List.length_append];rcases List.mem_cons.1 h with rfl | h
  ·omega
  ·have:=sepT_le sep x (z::r) h;omega
theorem attr_le (L:List Two)(q:Two)(h:q ∈ L):q.1.size+1+(valueT q.2).length<=(listedT L).length:=by
 have:=sepT_le [44,32] (attrT q) (L.map attrT) (List.mem_map_of_mem h);unfold listedT;rw[List.length_cons,List.length_append]
 have e:(attrT q).length=q.1.size+((valueT q.2).length+1):=by
  unfold attrT;rw[List.length_append,List.length_cons,<- size_len]
 omega
theorem listed_any (a:Option Addr)(L:List Two)(cap:Nat)(w:World)(h:TwoIn w a L)(hL:L.length<=2000000)(hs:∀ q ∈ L,q.2.size < 4294967281)(hlen:(listedT L).length<=140737488355328)(he:Env w):
  Calls Tryz.prog 240 #[.slice a L.length cap] w fun e w'=>e=.returned (.string ⟨(listedT L).toArray⟩)/\Ext w w':=by
 obtain⟨i0,hi,hz0,hz1,hz2⟩:=info_parts info_str;obtain⟨V,hV⟩:∃ V:ByteArray,V=⟨(listedT L).toArray⟩:=⟨_,rfl⟩;rw[<-hV];have HV:=hid hV;have HLEN:=hid hlen;obtain⟨N,hN⟩:∃ N,N=L.length:=⟨_,rfl⟩;rw[<-hN] at hL ⊢;have HN:=hid hN;have HI:=hid h;have HS:=hid hs;have HE:=hid he;clear hV hlen hN h hs he;go_enter Tryz.func240,Tryz.ntmps240;go_wp2
 go_loopw [3,8] (fun p i' wr=>∃ (k:Nat) (v:Value),k<=N/\v=p/\i'=.int .i64 k/\Ext w wr/\Hid (wr.ownsRow w.heap.size 9 1 v k (strsV ((L.take k).map attrT)))) (fun _ i' _=>N - (RowKit.intOf i').toNat)
 case atStart=>exact⟨0,_,by omega,rfl,rfl,Ext.refl _,hid (by rw[List.take_zero];exact World.ownsRow_nil _ _ _ _)⟩
 obtain⟨k,v,hk,rfl,rfl,hx,hown⟩:=hrel;by_cases hlt:k < N
 ·have hkl:k < L.length:=by rw[<-HN.out];exact hlt
  obtain⟨g,o,rfl,c0,c1⟩:=(HI.out.ext hx) k hkl;obtain⟨n,d,hq⟩:∃ n d,L[k]=(n,d):=⟨_,_,rfl⟩;rw[hq] at c0 c1;have hds:=HS.out _ (List.getElem_mem hkl);rw[hq] at hds;have hxb:Ext wr (wr.alloc (.cells #[.string n,.string d] 69)):=(Ext.refl _).alloc _;have hval:=fun w1 (x:Ext (wr.alloc (.cells #[.string n,.string d] 69)) w1)=>value_any d w1 hds (HE.out.ext ((hx.trans hxb).trans x))
  obtain⟨t,ht⟩:∃ t:ByteArray,t=⟨(valueT d).toArray⟩:=⟨_,rfl⟩;rw[<-ht] at hval;have hle:=attr_le L _ (List.getElem_mem hkl);rw[hq] at hle;have n9:n.size<=140737488355328:=by have:=HLEN.out;dsimp only at hle;omega
  have t9:t.size<=140737488355328:=by have:=HLEN.out;dsimp only at hle;rw[ht];simp[ByteArray.size];omega
  clear hle
  have hpart:strsV ((L.take (k+1)).map attrT)=strsV ((L.take k).map attrT)++[.string (n++⟨#[61]⟩++t)]:=by
   rw[List.take_succ_eq_append_getElem hkl,List.map_append,hq,ht,kv_app];unfold strsV;rw[List.map_append]
   rfl
  have hadd:∀ w,(Op.stringOp .add n ⟨#[61]⟩).run Tryz.prog w=.ok (.string (n++⟨#[61]⟩)) w:=fun w=>run_string_add_sum w _ _ (by show _+1<=_;omega)
  have hadd2:∀ w,(Op.stringOp .add (n++⟨#[61]⟩) t).run Tryz.prog w=.ok (.string (n++⟨#[61]⟩++t)) w:=fun w=>run_string_add_sum w _ _ (by rw[ByteArray.size_append];show _+1+_<=_;omega)
  have hat:=atr2_cells wr n d;have HVAL:=hid hval;have HAT:=hid hat;have HP:=hid hpart;have hwl:=fun k hk=>(hown.out.lt k hk).2
  have HWL:=hid hwl;clear hval hat hpart ht hq hds hkl hwl;have e0:=(HAT.out _ (Ext.refl _)).1;have e1:=(HAT.out _ (Ext.refl _)).2;go_wp2_with fail
  go_region_held3 (fun w'=>w'.cell? ⟨wr.heap.size,0,none⟩=some (.string n)/\w'.cell? ⟨wr.heap.size,1,none⟩=some (.string d))
   (first | exact⟨e0,e1⟩ | exact HAT.out _ x1 | exact HAT.out _ (x1.alloc _) | exact s2)
   (first
    | (go_at_call 241;refine(HVAL.out _ ((Ext.refl _).drew)).mono ?_;rintro e w1 ⟨rfl,x1⟩;replace x1:Ext (wr.alloc (.cells #[.string n,.string d] 69)) w1:=((Ext.refl _).drew).trans x1)
    | (refine step_append_lies _ (by rfl) _ _ _ (by rfl) w.heap.size 9 i0 _ 1 16 Tryz.underlying43 hi hz0 hz1 hz2 rfl (by omega) v k (strsV ((L.take k).map attrT)) (by rfl) (own_ext' hown.out ((hxb.trans x1).alloc _)) ⟨w1.heap.size,0,none⟩ 1 1 [.string (n++⟨#[61]⟩++t)] (by rfl) (by rfl) (World.news_of_block (cs:=#[.string (n++⟨#[61]⟩++t)]) (t:=9) (fr:=(0,0)) (heap_alloc_new w1 _)) (by simp[Value.oneCell']) (by omega) (by unfold maxLen;omega) (by omega) (by have:=((hx.trans hxb).trans x1).size;simp;omega) (w1.heap.size+1) (by simp) ?_;intro gg cp w2 hown1 hgrow hat2 hlt2;have s2:w2.cell? ⟨wr.heap.size,0,none⟩=some (.string n)/\w2.cell? ⟨wr.heap.size,1,none⟩=some (.string d):=(by
      have q:=HAT.out _ (x1.alloc (.cells #[.string (n++⟨#[61]⟩++t)] 9));have hsz:=x1.size;simp only[World.size_alloc] at hsz;constructor
      ·rw[hgrow.cell_far _ (by simp;omega) (fun e=>absurd (HWL.out _ e.symm) (Nat.lt_irrefl _))];exact q.1
      ·rw[hgrow.cell_far _ (by simp;omega) (fun e=>absurd (HWL.out _ e.symm) (Nat.lt_irrefl _))];exact q.2)))
  go_wp2
  go_roundw
  case rel=>exact⟨k+1,_,by omega,rfl,by go_num,(((hx.trans hxb).trans x1).alloc (.cells #[.string (n++⟨#[61]⟩++t)] 9)).grown hgrow (by have:=((hx.trans hxb).trans x1).size;simp;omega) (fun k hk=>(hown.out.lt k hk).1),hid (by rw[HP.out];exact hown1)⟩
  case measure=>simp[RowKit.intOf];omega
 have hkn:k=L.length:=by have:=HN.out;omega
 have hown':=hown.out;rw[hkn,List.take_length,<- hkn] at hown';obtain⟨J,hJ⟩:∃ J:ByteArray,J=⟨(sepT [44,32] (L.map attrT)).toArray⟩:=⟨_,rfl⟩;have hVJ:V=⟨#[91]⟩++J++⟨#[93]⟩:=by rw[HV.out,hJ,br_app];rfl
 have hJl:J.size+2<=140737488355328:=by
  have:=HLEN.out;unfold listedT at this;rw[List.length_cons,List.length_append] at this;rw[hJ,size_mk];simp only[List.length_cons,List.length_nil] at this;omega
 have hjn:Calls Tryz.prog 133 #[v,.string ⟨#[44,32]⟩] wr fun e w'=>e=.returned (.string J)/\Ext wr w':=by
  rcases hown'.2 with⟨rfl,h0⟩ | ⟨g,cp,cur,rfl,hbg,hg,r1,r2,r3,r4⟩
  ·have hL0:L=[]:=List.eq_nil_of_length_eq_zero (by omega);refine(Tryz.strings_Join_none none 0 _ wr).mono ?_;rintro e w' ⟨rfl,rfl⟩;exact⟨by rw[hJ,hL0];rfl,Ext.refl _⟩
  have hc:=Tryz.strings_Join g 0 cp ((L.map attrT).map (fun l=>(⟨l.toArray⟩:ByteArray))) ⟨#[44,32]⟩ wr (fun j x hjx=>by
    have hc:=hown'.cells (g:=g) rfl j (.string x) (by
     unfold strsV;rw[List.getElem?_map] at hjx ⊢;obtain⟨y,hy,rfl⟩:=Option.map_eq_some_iff.1 hjx
     rw[hy];rfl)
    have ha:(⟨g,0,none⟩:Addr).add j=⟨g,0+j,none⟩:=by unfold Addr.add;split <;> simp_all
    rw[ha] at hc;exact hc) (Array.getElem?_eq_some_iff.1 hg).1 (by simp;omega) (by simp;omega) (by
    rw[mapBack,show(⟨#[44,32]⟩:ByteArray).data.toList=[44,32] from rfl,<- sepT_join]
    rw[hJ,size_mk] at hJl;omega)
  rw[mapBack,show(⟨#[44,32]⟩:ByteArray).data.toList=[44,32] from rfl,<- sepT_join,<- hJ,List.length_map,List.length_map,<- hkn] at hc;exact hc
 have hadd:∀ w,(Op.stringOp .add ⟨#[91]⟩ J).run Tryz.prog w=.ok (.string (⟨#[91]⟩++J)) w:=fun w=>run_string_add_sum w _ _ (by show 1+_<=_;omega)
 have hadd2:∀ w,(Op.stringOp .add (⟨#[91]⟩++J) ⟨#[93]⟩).run Tryz.prog w=.ok (.string (⟨#[91]⟩++J++⟨#[93]⟩)) w:=fun w=>run_string_add_sum w _ _ (by rw[ByteArray.size_append];show 1+_+1<=_;omega)
 have HJN:=hid hjn;have HVJ:=hid hVJ;clear hjn hVJ hJ hkn hown' hown;go_wp2_with (go_at_call 133;refine HJN.out.mono ?_;rintro e w1 ⟨rfl,x1⟩);go_returns;exact⟨by rw[HVJ.out];rfl,hx.trans x1⟩
theorem sp_app (l:List UInt8):(⟨#[32]⟩:ByteArray)++(⟨l.toArray⟩:ByteArray)++(⟨#[59]⟩:ByteArray)=⟨(32::(l++[59])).toArray⟩:=by
 apply ByteArray.ext;simp[ByteArray.data_append]
theorem tail_any (a:Option Addr)(L:List Two)(cap:Nat)(w:World)(h:TwoIn w a L)(hL:L.length<=2000000)(hs:∀ q ∈ L,q.2.size < 4294967281)(hlen:(tailT L).length<=140737488355328)(he:Env w):
  Calls Tryz.prog 239 #[.slice a L.length cap] w fun e w'=>e=.returned (.string ⟨(tailT L).toArray⟩)/\Ext w w':=by
 by_cases h0:L=[]
 ·subst h0;clear h hs hlen;go_enter Tryz.func239,Tryz.ntmps239;go_wp2;go_ret;exact⟨rfl,Ext.refl _⟩
 have hT:tailT L=32::(listedT L++[59]):=by
  unfold tailT;rw[if_neg (by simpa using h0)]
 rw[hT] at hlen ⊢;have hl:=listed_any a L cap w h hL hs (by simp at hlen;omega) he;rw[<-sp_app];have t9:(⟨(listedT L).toArray⟩:ByteArray).size<=140737488355328:=by simp[ByteArray.size] at hlen ⊢;omega
 generalize (⟨(listedT L).toArray⟩:ByteArray)=T at *
 have f1:((L.length:Int) == 0)=false:=by
  rw[beq_eq_false_iff_ne];have:=List.length_pos_iff.2 h0;omega
 generalize L.length=N at *;have HL:=hid hl;clear hl h hs hlen hT he h0;go_enter Tryz.func239,Tryz.ntmps239;go_wp2_with (go_at_call 240;refine HL.out.mono ?_;rintro e w1 ⟨rfl,x1⟩);go_ret;exact⟨rfl,x1⟩
end Go.Proofs.YtjaeedbjknejdaaGreatDoor.Tr

namespace Go.Proofs.YtjaeedbjknejdaaGreatDoor.Qo
open Go.RowKit Go.Shelf Fx Lx
theorem bytes_str (s:ByteArray):Lib.strCells s=Lib.byteCells s.data.toList:=by
 unfold Lib.strCells Lib.byteCells;simp
end Go.Proofs.YtjaeedbjknejdaaGreatDoor.Qo

namespace Go.Proofs.YtjaeedbjknejdaaGreatDoor.Tr
open Go.RowKit Go.Shelf Fx Lx
def WrAt (B b:Nat)(p:Value)(ar:ByteArray)(lev:Int)(bs:List Value)(w:World):Prop :=
 B<=b/\∃ v,w.heap[b]? = some (.cells #[p,v,.string ar,.int .i64 lev] 152 (0,0))/\w.ownsRowF B 5 1 v bs.length bs/\v.ownBlock ≠ some b
def WrIn (B b:Nat)(ar:ByteArray)(lev:Int)(bs:List Value)(w:World):Prop :=
 WrAt B b (.pointer none) ar lev bs w\/WrAt B b (.pointer (some ⟨b,0,none⟩)) ar lev bs w
theorem liesWr : liesAt Tryz.prog Tryz.prog.depth 152 (4 / Tryz.prog.cellsOf 152) 0 150 1=true:=by kernel_rfl
theorem WrAt.lt {B b:Nat}{p:Value}{ar:ByteArray}{lev:Int}{bs:List Value}{w:World}(h:WrAt B b p ar lev bs w):b < w.heap.size:=by
 obtain⟨_,v,hb,_⟩:=h;exact(Array.getElem?_eq_some_iff.1 hb).1
theorem WrAt.shape {B b:Nat}{p:Value}{ar:ByteArray}{lev:Int}{bs:List Value}{w:World}(h:WrAt B b p ar lev bs w):w.shape? b=some (152,4):=by
 obtain⟨_,v,hb,_⟩:=h;simp[World.shape?,hb]
theorem WrAt.cells {B b:Nat}{p:Value}{ar:ByteArray}{lev:Int}{bs:List Value}{w:World}(h:WrAt B b p ar lev bs w):w.cell? ⟨b,0,none⟩=some p/\w.cell? ⟨b,2,none⟩=some (.string ar)/\w.cell? ⟨b,3,none⟩=some (.int .i64 lev)/\w.frozen? ⟨b,0,none⟩=false/\w.frozen? ⟨b,3,none⟩=false:=by
 obtain⟨_,v,hb,_⟩:=h;exact⟨by rw[Lib.cell_of_heap hb];rfl,by rw[Lib.cell_of_heap hb];rfl,by rw[Lib.cell_of_heap hb];rfl,Lib.frozen_of_heap hb 0,Lib.frozen_of_heap hb 3⟩
theorem setOne' {w:World}{B:Nat}{cs:Array Value}{T:TypeId}(h:w.heap[B]? = some (.cells cs T (0,0)))(i:Nat)(v:Value):
  (w.setCell ⟨B,i,none⟩ v).heap[B]? = some (.cells (cs.setIfInBounds i v) T (0,0)):=by
 unfold World.setCell;simp[Array.getElem?_modify,h]
theorem own_set {B b i:Nat}{v u:Value}{n:Nat}{bs:List Value}{w:World}(h:w.ownsRowF B 5 1 v n bs)(hne:v.ownBlock ≠ some b):(w.setCell ⟨b,i,none⟩ u).ownsRowF B 5 1 v n bs:=by
 refine⟨h.1,?_⟩;rcases h.2 with hn | ⟨g,cap,cur,fz,rfl,hb,hg,rest⟩
 ·exact .inl hn
 refine .inr ⟨g,cap,cur,fz,rfl,hb,?_,rest⟩;rw[Below.heap_setCell _ _ _ _ (by simpa [Value.ownBlock] using hne)];exact hg
theorem WrAt.used {B b:Nat}{p:Value}{ar:ByteArray}{lev:Int}{bs:List Value}{w:World}(h:WrAt B b p ar lev bs w)(q:Value):WrAt B b q ar lev bs (w.setCell ⟨b,0,none⟩ q):=by
 obtain⟨hB,v,hb,hown,hne⟩:=h;exact⟨hB,v,setOne' hb 0 q,own_set hown hne,hne⟩
theorem WrAt.level {B b:Nat}{p:Value}{ar:ByteArray}{lev:Int}{bs:List Value}{w:World}(h:WrAt B b p ar lev bs w)(q:Int):WrAt B b p ar q bs (w.setCell ⟨b,3,none⟩ (.int .i64 q)):=by
 obtain⟨hB,v,hb,hown,hne⟩:=h;exact⟨hB,v,setOne' hb 3 _,own_set hown hne,hne⟩
theorem WrAt.ext {B b:Nat}{p:Value}{ar:ByteArray}{lev:Int}{bs:List Value}{w w':World}(h:WrAt B b p ar lev bs w)(x:Ext w w'):WrAt B b p ar lev bs w':=by
 have hlt:=h.lt;obtain⟨hB,v,hb,hown,hne⟩:=h;refine⟨hB,v,(x.block b hlt).trans hb,⟨hown.1,?_⟩,hne⟩;rcases hown.2 with h1 | ⟨g,cap,cur,fz,hv,hbg,hg,r⟩
 ·exact .inl h1
 exact .inr ⟨g,cap,cur,fz,hv,hbg,(x.block g (Array.getElem?_eq_some_iff.1 hg).1).trans hg,r⟩
theorem WrIn.ext {B b:Nat}{ar:ByteArray}{lev:Int}{bs:List Value}{w w':World}(h:WrIn B b ar lev bs w)(x:Ext w w'):WrIn B b ar lev bs w':=h.imp (fun h=>h.ext x) (fun h=>h.ext x)
theorem WrAt.put {B b:Nat}{p v v':Value}{ar:ByteArray}{lev:Int}{bs':List Value}{w:World}(hB:B<=b)(hb:w.heap[b]? = some (.cells #[p,v,.string ar,.int .i64 lev] 152 (0,0)))(hown:w.ownsRowF B 5 1 v' bs'.length bs'):
  WrAt B b p ar lev bs' (w.setCell ⟨b,1,none⟩ v'):=by
 have hne:=Lib.ownBlock_neF hown hb (by decide);exact⟨hB,v',setOne' hb 1 v',own_set hown hne,hne⟩
theorem copyW_any (B b:Nat)(ar:ByteArray)(lev:Int)(bs:List Value)(w:World)(h:WrIn B b ar lev bs w):
  Calls Tryz.prog 236 #[.pointer (some ⟨b,0,none⟩)] w fun e w'=>e=.returned (.tuple #[])/\(WrAt B b (.pointer (some ⟨b,0,none⟩)) ar lev bs w'/\Below B w w'/\Lib.OthersKept 5 (some b) w w'):=by
 obtain⟨j,hj,hjs⟩:∃ j,Tryz.prog.info? 150=some j/\j.size=2:=Option.map_eq_some_iff.1 Tryz.Builder_Extra_169.sizeBuilder;rcases h with h | h
 ·have c0:=h.cells.1;have sh:=h.shape;have fz:=h.cells.2.2.2.1;have c0':(w.setCell ⟨b,0,none⟩ (.pointer (some ⟨b,0,none⟩))).cell? ⟨b,0,none⟩=some (.pointer (some ⟨b,0,none⟩)):=(h.used _).cells.1;go_enter Tryz.func236,Tryz.ntmps236;go_wp2;rw[Lib.run_to_unsafe w ⟨b,0,none⟩ Tryz.underlying147 Tryz.underlying308 hj (by rw[hjs];decide) sh (Nat.zero_lt_succ 3)];simp only[Result.andThen];rw[Oper.upon_value];go_wp2;rw[run_callFunc_extern Tryz.func275 (by kernel_rfl) (by kernel_rfl) (by kernel_rfl) (e:=Extern.AbiNoEscape.same) (by kernel_rfl)];rw[Lib.run_noEscape];simp only[Result.andThen];rw[Oper.upon_value];go_wp2;rw[Lib.run_from_unsafe w ⟨b,0,none⟩ Tryz.underlying308 Tryz.underlying147 hj sh liesWr];simp only[Result.andThen];rw[Oper.upon_value];go_wp2
  go_end0
  exact⟨rfl,h.used _,(Below.refl B w).setCell (p:=⟨b,0,none⟩) h.1 _,(Lib.OthersKept.refl _ _ w).setCell ⟨b,0,none⟩ rfl _⟩
 have c0:=h.cells.1;go_enter Tryz.func236,Tryz.ntmps236;go_wp2;rw[Lib.run_neq_ptr_same w _ Tryz.underlying147 hj];go_wp2
 go_end0
 exact⟨rfl,h,Below.refl B _,Lib.OthersKept.refl _ _ _⟩
theorem byteW_any (B b:Nat)(ar:ByteArray)(lev:Int)(bs:List Value)(c:Int)(w:World)(h:WrIn B b ar lev bs w)(hlen:bs.length+1<=140737488355328)(hBw:B<=w.heap.size):
  Calls Tryz.prog 196 #[.pointer (some ⟨b,0,none⟩),.int .u8 c] w fun e w'=>e=.returned .nilIface/\(WrIn B b ar lev (bs++[.int .u8 c]) w'/\Below B w w'/\Lib.OthersKept 5 (some b) w w'):=by
 obtain⟨i0,hi,hz0,hz1,hz2⟩:=info_parts Tryz.Builder_Extra_169.infoByte;go_enter Tryz.func196,Tryz.ntmps196;go_wp2_with fail;refine(copyW_any B b ar lev bs _ h).mono ?_;rintro e w1 ⟨rfl,h1,hb1,hk1⟩;obtain⟨hB,v,hbk,hown,hne⟩:=h1;have c1:w1.cell? ⟨b,1,none⟩=some v:=by rw[Lib.cell_of_heap hbk];rfl
 go_wp2_with (at_builtin;refine wpList_append_ownF _ rfl _ _ 148 rfl B 5 i0 (.int .u8 0) 1 1 Tryz.underlying148 hi hz0 hz1 hz2 rfl (by decide) _ _ _ rfl (hown.alloc _) ⟨w1.heap.size,0,none⟩ 1 1 [.int .u8 c] rfl rfl ?c1 ?c2 ?c3 ?c4 ?c5 ?_)
 case c1 =>
  intro j u hj
  match j,hj with
  | 0,hj=>simp at hj;subst hj;simp[Addr.add]
 case c2=>intro u hu;simp at hu;subst hu;rfl
 case c3=>unfold maxLen;omega
 case c4=>omega
 case c5=>have:=hb1.size;simp;omega
 intro v' w2 hown' hgrow hne';have hlt:b < w1.heap.size:=(Array.getElem?_eq_some_iff.1 hbk).1
 have hb2:w2.heap[b]? = some (.cells #[.pointer (some ⟨b,0,none⟩),v,.string ar,.int .i64 lev] 152 (0,0)):=by
  rw[hgrow.block b (by simp;omega) (fun e=>hne e.symm),Lib.alloc_old w1 _ b hlt];exact hbk
 have d1:w2.cell? ⟨b,1,none⟩=some v:=by rw[Lib.cell_of_heap hb2];rfl
 have f1:w2.frozen? ⟨b,1,none⟩=false:=Lib.frozen_of_heap hb2 1
 obtain⟨g,cap,rfl⟩:∃ g cap,v'=.slice (some ⟨g,0,none⟩) (bs.length+1) cap:=by
  rcases hown'.2 with⟨_,h0⟩ | ⟨g,cap,cur,fz,hv,_⟩
  ·omega
  exact⟨g,cap,hv⟩
 go_wp2;go_ret;refine⟨rfl,.inr ?_,?_,((hk1.alloc _).grown hgrow (Lib.ownsRowF_kind (hown.alloc _))).setCell ⟨b,1,none⟩ rfl _⟩
 ·exact WrAt.put hB hb2 (bs':=bs++[.int .u8 c]) (by simpa using hown')
 exact((hb1.alloc (by have:=hb1.size;omega) _).grown hgrow (by have:=hb1.size;simp;omega) (fun k hk=>(hown.lt k hk).1)).setCell (p:=⟨b,1,none⟩) hB _
theorem strW_any (B b:Nat)(ar:ByteArray)(lev:Int)(bs:List Value)(s:ByteArray)(w:World)(h:WrIn B b ar lev bs w)(hlen:bs.length+s.size<=140737488355328)(hBw:B<=w.heap.size):
  Calls Tryz.prog 190 #[.pointer (some ⟨b,0,none⟩),.string s] w fun e w'=>e=.returned (.tuple #[.int .i64 s.size,.nilIface])/\(WrIn B b ar lev (bs++Lib.strCells s) w'/\Below B w w'/\Lib.OthersKept 5 (some b) w w'):=by
 obtain⟨i0,hi,hz0,hz1,hz2⟩:=info_parts Tryz.Builder_Extra_169.infoByte;go_enter Tryz.func190,Tryz.ntmps190;go_wp2_with fail;refine(copyW_any B b ar lev bs _ h).mono ?_;rintro e w1 ⟨rfl,h1,hb1,hk1⟩;obtain⟨hB,v,hbk,hown,hne⟩:=h1;have c1:w1.cell? ⟨b,1,none⟩=some v:=by rw[Lib.cell_of_heap hbk];rfl
 go_wp2_with (at_builtin;refine Lib.wpList_append_own_stringF _ rfl _ _ 148 9 rfl B 5 i0 Tryz.underlying148 Tryz.underlying9 hi hz0 hz1 hz2 _ _ _ rfl hown s rfl ?c3 ?c4 ?c5 ?_)
 case c3=>unfold maxLen;omega
 case c4=>omega
 case c5=>have:=hb1.size;omega
 intro v' w2 hown' hgrow _;have hlt:b < w1.heap.size:=(Array.getElem?_eq_some_iff.1 hbk).1
 have hb2:w2.heap[b]? = some (.cells #[.pointer (some ⟨b,0,none⟩),v,.string ar,.int .i64 lev] 152 (0,0)):=by
  rw[hgrow.block b hlt (fun e=>hne e.symm)];exact hbk
 have d1:w2.cell? ⟨b,1,none⟩=some v:=by rw[Lib.cell_of_heap hb2];rfl
 have f1:w2.frozen? ⟨b,1,none⟩=false:=Lib.frozen_of_heap hb2 1
 obtain⟨ao,n',cap,rfl⟩:∃ ao n' cap,v'=.slice ao n' cap:=by
  rcases hown'.2 with⟨hv,_⟩ | ⟨g,cap,cur,fz,hv,_⟩
  ·exact⟨_,_,_,hv⟩
  exact⟨_,_,_,hv⟩
 go_wp2
 go_ret2
 refine⟨rfl,.inr ?_,?_,(hk1.grown hgrow (Lib.ownsRowF_kind hown)).setCell ⟨b,1,none⟩ rfl _⟩
 ·exact WrAt.put hB hb2 (bs':=bs++Lib.strCells s) (by simpa [Lib.strCells_length] using hown')
 exact(hb1.grown hgrow (by have:=hb1.size;omega) (fun k hk=>(hown.lt k hk).1)).setCell (p:=⟨b,1,none⟩) hB _
def Wr (B b:Nat)(ar:ByteArray)(lev:Int)(l:List UInt8)(w:World):Prop:=WrIn B b ar lev (Lib.byteCells l) w
theorem cells_app (l m:List UInt8):Lib.byteCells (l++m)=Lib.byteCells l++Lib.byteCells m:=by unfold Lib.byteCells;simp
theorem strT_any (B b:Nat)(ar:ByteArray)(lev:Int)(l:List UInt8)(s:ByteArray)(w:World)(h:Wr B b ar lev l w)(hlen:l.length+s.size<=140737488355328)(hBw:B<=w.heap.size):
  Calls Tryz.prog 190 #[.pointer (some ⟨b,0,none⟩),.string s] w fun e w'=>e=.returned (.tuple #[.int .i64 s.size,.nilIface])/\(Wr B b ar lev (l++s.data.toList) w'/\Below B w w'/\Lib.OthersKept 5 (some b) w w'):=by
 have:=strW_any B b ar lev (Lib.byteCells l) s w h (by rw[Lib.byteCells_length];exact hlen) hBw;rw[Qo.bytes_str,<- cells_app] at this;exact this
theorem byteT_any (B b:Nat)(ar:ByteArray)(lev:Int)(l:List UInt8)(c:UInt8)(w:World)(h:Wr B b ar lev l w)(hlen:l.length+1<=140737488355328)(hBw:B<=w.heap.size):
  Calls Tryz.prog 196 #[.pointer (some ⟨b,0,none⟩),.int .u8 c.toNat] w fun e w'=>e=.returned .nilIface/\(Wr B b ar lev (l++[c]) w'/\Below B w w'/\Lib.OthersKept 5 (some b) w w'):=by
 have:=byteW_any B b ar lev (Lib.byteCells l) c.toNat w h (by rw[Lib.byteCells_length];exact hlen) hBw;rw[show [Value.int .u8 c.toNat]=Lib.byteCells [c] from rfl,<- cells_app] at this;exact this
end Go.Proofs.YtjaeedbjknejdaaGreatDoor.Tr

namespace Go.Proofs.YtjaeedbjknejdaaGreatDoor.Tr
open Go.RowKit Go.Sort Go.Lib Go.Shelf Fx Lx
def catT : List ByteArray->List UInt8
 | []=>[]
 | x::r=>x.data.toList++catT r
theorem catT_app : ∀ l m:List ByteArray,catT (l++m)=catT l++catT m
 | [],m=>rfl
 | x::r,m=>by rw[List.cons_append,catT,catT,catT_app r m,List.append_assoc]
theorem indT_succ (k:Nat):indT (k+1)=indT k++[32,32,32,32]:=by
 unfold indT;rw[show 4 * (k+1)=4 * k+4 by omega,<- List.replicate_append_replicate];rfl
theorem Wr.cells {B b:Nat}{ar:ByteArray}{lev:Int}{l:List UInt8}{w:World}(h:Wr B b ar lev l w):w.cell? ⟨b,2,none⟩=some (.string ar)/\w.cell? ⟨b,3,none⟩=some (.int .i64 lev)/\w.frozen? ⟨b,3,none⟩=false:=by
 rcases h with h | h <;> exact⟨h.cells.2.1,h.cells.2.2.1,h.cells.2.2.2.2⟩
def Kp (B b:Nat)(w w':World):Prop:=Below B w w'/\Lib.OthersKept 5 (some b) w w'
theorem Kp.refl (B b:Nat)(w:World):Kp B b w w:=⟨Below.refl _ _,Lib.OthersKept.refl _ _ _⟩
theorem Kp.trans {B b:Nat}{w1 w2 w3:World}(h:Kp B b w1 w2)(k:Kp B b w2 w3):Kp B b w1 w3:=⟨h.1.trans k.1,h.2.trans k.2⟩
theorem Kp.row {B b g:Nat}{w w':World}{cs:Array Value}{fz:Nat × Nat}(h:Kp B b w w')(hg:w.heap[g]? = some (.cells cs 9 fz))(hne:g ≠ b):w'.heap[g]? = some (.cells cs 9 fz) :=
 h.2 g _ hg (by simpa using hne) (fun c f e=>by injection e with _ h _;exact absurd h (by decide))
theorem line_any (B b lev g:Nat)(ar:ByteArray)(l:List UInt8)(P:List ByteArray)(w:World)(h:Wr B b ar lev l w)(hg:w.heap[g]? = some (.cells (P.map Value.string).toArray 9 (0,0)))(hne:g ≠ b)(hBw:B<=w.heap.size)
  (hP:P.length<=9223372036854775807) (hlen:l.length+4 * lev+(catT P).length+1<=140737488355328) :
  Calls Tryz.prog 147 #[.pointer (some ⟨b,0,none⟩),.slice (some ⟨g,0,none⟩) P.length P.length] w fun e w'=>e=.returned (.tuple #[])/\Wr B b ar lev (l++indT lev++catT P++[10]) w'/\Kp B b w w':=by
 obtain⟨N,hN⟩:∃ N,N=P.length:=⟨_,rfl⟩;rw[<-hN] at hP ⊢;have q3:=h.cells.2.1;have HN:=hid hN;have HG:=hid hg;have HL:=hid hlen;have HW:Hid (Wr B b ar lev (l++indT 0) w):=hid (by rw[show indT 0=[] from rfl,List.append_nil];exact h);have hlev:lev<=140737488355328:=by omega
 clear h hg hlen hN;go_enter Tryz.func147,Tryz.ntmps147;go_wp2
 go_loopw [10] (fun i' wr=>∃ k:Nat,k<=lev/\i'=.int .i64 k/\Hid (Wr B b ar lev (l++indT k) wr)/\Kp B b w wr) (fun i' _=>lev - (RowKit.intOf i').toNat)
 case atStart=>exact⟨0,by omega,rfl,HW,Kp.refl _ _ _⟩
 obtain⟨k,hk,rfl,hw,hx⟩:=hrel;clear HW;by_cases hlt:k < lev
 ·have hc:=strT_any B b ar lev (l++indT k) ⟨#[32,32,32,32]⟩ wr hw.out (by have:=HL.out;rw[List.length_append];unfold indT;rw[List.length_replicate];show _+4<=_;omega) (Nat.le_trans hBw hx.1.size);have HC:=hid hc;clear hc;go_wp2_with (go_at_call 190;refine HC.out.mono ?_;rintro e w1 ⟨rfl,h1,x1⟩)
  go_roundw
  case rel=>exact⟨k+1,by omega,by go_num,hid (by rw[indT_succ,<- List.append_assoc];exact h1),hx.trans x1⟩
  case measure=>simp[RowKit.intOf];omega
 have hkl:k=lev:=by omega
 subst hkl;have hw2:Hid (Wr B b ar k (l++indT k++catT (P.take 0)) wr):=hid (by rw[List.take_zero,catT,List.append_nil];exact hw.out);clear hw;obtain⟨wo,hwo⟩:∃ wo,wo=wr:=⟨_,rfl⟩;go_wp2
 go_loopw [19] (fun i' wr=>∃ j:Nat,j<=N/\i'=.int .i64 j/\Hid (Wr B b ar k (l++indT k++catT (P.take j)) wr)/\Kp B b w wr) (fun i' _=>N - (RowKit.intOf i').toNat)
 case atStart=>exact⟨0,by omega,rfl,hw2,hx⟩
 obtain⟨j,hj,rfl,hw,hx⟩:=hrel;by_cases hlt:j < N
 ·have hjl:j < P.length:=by rw[<-HN.out];exact hlt
  obtain⟨t,ht⟩:∃ t,t=P[j]:=⟨_,rfl⟩;have hrow:=hx.row HG.out hne
  have hc0:wr.cell? ⟨g,j,none⟩=some (.string t):=by
   rw[Lib.cell_of_heap hrow];simp[hjl,ht]
  have htk:catT (P.take (j+1))=catT (P.take j)++t.data.toList:=by
   rw[List.take_succ_eq_append_getElem hjl,catT_app,<- ht];simp[catT]
  have hle:(catT (P.take (j+1))).length<=(catT P).length:=by
   have h:=catT_app (P.take (j+1)) (P.drop (j+1));rw[List.take_append_drop] at h;rw[h,List.length_append];omega
  have hsz:=size_len t
  have hc:=strT_any B b ar k (l++indT k++catT (P.take j)) t wr hw.out (by
   have:=HL.out;rw[htk,List.length_append] at hle
   rw[List.length_append,List.length_append];unfold indT;rw[List.length_replicate];omega) (Nat.le_trans hBw hx.1.size)
  have HC:=hid hc;have HTK:=hid htk;clear hc htk hle hsz hrow ht hjl;go_wp2_with (go_at_call 190;refine HC.out.mono ?_;rintro e w1 ⟨rfl,h1,x1⟩)
  go_roundw
  case rel=>exact⟨j+1,by omega,by go_num,hid (by rw[HTK.out,<- List.append_assoc];exact h1),hx.trans x1⟩
  case measure=>simp[RowKit.intOf];omega
 have hjn:j=P.length:=by have:=HN.out;omega
 have hc:=byteT_any B b ar k (l++indT k++catT P) 10 wr (by have:=hw.out;rw[hjn,List.take_length] at this;exact this) (by
  have:=HL.out
  rw[List.length_append,List.length_append];unfold indT;rw[List.length_replicate];omega) (Nat.le_trans hBw hx.1.size)
 have HC:=hid hc;clear hc hjn;go_wp2_with (go_at_call 196;refine HC.out.mono ?_;rintro e w1 ⟨rfl,h1,x1⟩);go_returns;exact⟨rfl,h1,hx.trans x1⟩
end Go.Proofs.YtjaeedbjknejdaaGreatDoor.Tr
