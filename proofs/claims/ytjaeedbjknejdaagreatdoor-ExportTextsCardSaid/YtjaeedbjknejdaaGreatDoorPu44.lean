/- Packed texts: TreWr, TreLine, TreNode, TreEdge, TreBlock -/
import Derived.Test.YtjaeedbjknejdaaGreatDoorPu43
set_option linter.unusedVariables false
set_option linter.unusedSimpArgs false
set_option maxHeartbeats 16000000
set_option maxRecDepth 100000
namespace Go.Proofs.YtjaeedbjknejdaaGreatDoor.Tr
open Go.RowKit Go.Shelf Fx Lx
def WrAt (B b:Nat)(p:Value)(ar:ByteArray)(lev:Int)(bs:List Value)(w:World):Prop :=
  B<=b/\∃ v,w.heap[b]? = some (.cells #[p,v,.string ar,.int .i64 lev] 152 (0,0))/\w.ownsRowF B 5 1 v bs.length bs/\v.ownBlock ≠ some b
def WrIn (B b:Nat)(ar:ByteArray)(lev:Int)(bs:List Value)(w:World):Prop :=
  WrAt B b (.pointer none) ar lev bs w\/WrAt B b (.pointer (some ⟨b,0,none⟩)) ar lev bs w
theorem liesWr : liesAt Tryz.prog Tryz.prog.depth 152 (4 / Tryz.prog.cellsOf 152) 0 150 1=true:=by kernel_rfl
theorem WrAt.lt {B b:Nat}{p:Value}{ar:ByteArray}{lev:Int}{bs:List Value}{w:World}(h:WrAt B b p ar lev bs w):b < w.heap.size:=by
  obtain⟨_,v,hb,_⟩:=h;exact(Array.getElem?_eq_some_iff.1 hb).1
theorem WrAt.shape {B b:Nat}{p:Value}{ar:ByteArray}{lev:Int}{bs:List Value}{w:World}(h:WrAt B b p ar lev bs w):w.shape? b=some (152,4):=by
  obtain⟨_,v,hb,_⟩:=h;simp[World.shape?,hb]
theorem WrAt.cells {B b:Nat}{p:Value}{ar:ByteArray}{lev:Int}{bs:List Value}{w:World}(h:WrAt B b p ar lev bs w):w.cell? ⟨b,0,none⟩=some p/\w.cell? ⟨b,2,none⟩=some (.string ar)/\w.cell? ⟨b,3,none⟩=some (.int .i64 lev)/\w.frozen? ⟨b,0,none⟩=false/\w.frozen? ⟨b,3,none⟩=false:=by
  obtain⟨_,v,hb,_⟩:=h;exact⟨by rw[Lib.cell_of_heap hb];rfl,by rw[Lib.cell_of_heap hb];rfl,by rw[Lib.cell_of_heap hb];rfl,Lib.frozen_of_heap hb 0,Lib.frozen_of_heap hb 3⟩
theorem setOne' {w:World}{B:Nat}{cs:Array Value}{T:TypeId}(h:w.heap[B]? = some (.cells cs T (0,0)))(i:Nat)(v:Value):
    (w.setCell ⟨B,i,none⟩ v).heap[B]? = some (.cells (cs.setIfInBounds i v) T (0,0)):=by
  unfold World.setCell;simp[Array.getElem?_modify,h]
theorem own_set {B b i:Nat}{v u:Value}{n:Nat}{bs:List Value}{w:World}(h:w.ownsRowF B 5 1 v n bs)(hne:v.ownBlock ≠ some b):(w.setCell ⟨b,i,none⟩ u).ownsRowF B 5 1 v n bs:=by
  refine⟨h.1,?_⟩;rcases h.2 with hn | ⟨g,cap,cur,fz,rfl,hb,hg,rest⟩
  · exact .inl hn
  refine .inr ⟨g,cap,cur,fz,rfl,hb,?_,rest⟩;rw[Below.heap_setCell _ _ _ _ (by simpa [Value.ownBlock] using hne)];exact hg
theorem WrAt.used {B b:Nat}{p:Value}{ar:ByteArray}{lev:Int}{bs:List Value}{w:World}(h:WrAt B b p ar lev bs w)(q:Value):WrAt B b q ar lev bs (w.setCell ⟨b,0,none⟩ q):=by
  obtain⟨hB,v,hb,hown,hne⟩:=h;exact⟨hB,v,setOne' hb 0 q,own_set hown hne,hne⟩
theorem WrAt.level {B b:Nat}{p:Value}{ar:ByteArray}{lev:Int}{bs:List Value}{w:World}(h:WrAt B b p ar lev bs w)(q:Int):WrAt B b p ar q bs (w.setCell ⟨b,3,none⟩ (.int .i64 q)):=by
  obtain⟨hB,v,hb,hown,hne⟩:=h;exact⟨hB,v,setOne' hb 3 _,own_set hown hne,hne⟩
theorem WrAt.ext {B b:Nat}{p:Value}{ar:ByteArray}{lev:Int}{bs:List Value}{w w':World}(h:WrAt B b p ar lev bs w)(x:Ext w w'):WrAt B b p ar lev bs w':=by
  have hlt:=h.lt;obtain⟨hB,v,hb,hown,hne⟩:=h;refine⟨hB,v,(x.block b hlt).trans hb,⟨hown.1,?_⟩,hne⟩;rcases hown.2 with h1 | ⟨g,cap,cur,fz,hv,hbg,hg,r⟩
  · exact .inl h1
  exact .inr ⟨g,cap,cur,fz,hv,hbg,(x.block g (Array.getElem?_eq_some_iff.1 hg).1).trans hg,r⟩
theorem WrIn.ext {B b:Nat}{ar:ByteArray}{lev:Int}{bs:List Value}{w w':World}(h:WrIn B b ar lev bs w)(x:Ext w w'):WrIn B b ar lev bs w':=h.imp (fun h=>h.ext x) (fun h=>h.ext x)
theorem WrAt.put {B b:Nat}{p v v':Value}{ar:ByteArray}{lev:Int}{bs':List Value}{w:World}(hB:B<=b)(hb:w.heap[b]? = some (.cells #[p,v,.string ar,.int .i64 lev] 152 (0,0)))(hown:w.ownsRowF B 5 1 v' bs'.length bs'):
    WrAt B b p ar lev bs' (w.setCell ⟨b,1,none⟩ v'):=by
  have hne:=Lib.ownBlock_neF hown hb (by decide);exact⟨hB,v',setOne' hb 1 v',own_set hown hne,hne⟩
theorem copyW_any (B b:Nat)(ar:ByteArray)(lev:Int)(bs:List Value)(w:World)(h:WrIn B b ar lev bs w):
    Calls Tryz.prog 236 #[.pointer (some ⟨b,0,none⟩)] w fun e w'=>e=.returned (.tuple #[])/\(WrAt B b (.pointer (some ⟨b,0,none⟩)) ar lev bs w'/\Below B w w'/\Lib.OthersKept 5 (some b) w w'):=by
  obtain⟨j,hj,hjs⟩:∃ j,Tryz.prog.info? 150=some j/\j.size=2:=Option.map_eq_some_iff.1 Tryz.Builder_Extra_169.sizeBuilder;rcases h with h | h
  · have c0:=h.cells.1;have sh:=h.shape;have fz:=h.cells.2.2.2.1;have c0':(w.setCell ⟨b,0,none⟩ (.pointer (some ⟨b,0,none⟩))).cell? ⟨b,0,none⟩=some (.pointer (some ⟨b,0,none⟩)):=(h.used _).cells.1;go_enter Tryz.func236,Tryz.ntmps236;go_wp2;rw[Lib.run_to_unsafe w ⟨b,0,none⟩ Tryz.underlying147 Tryz.underlying308 hj (by rw[hjs];decide) sh (Nat.zero_lt_succ 3)];simp only[Result.andThen];rw[Oper.upon_value];go_wp2;rw[run_callFunc_extern Tryz.func275 (by kernel_rfl) (by kernel_rfl) (by kernel_rfl) (e:=Extern.AbiNoEscape.same) (by kernel_rfl)];rw[Lib.run_noEscape];simp only[Result.andThen];rw[Oper.upon_value];go_wp2;rw[Lib.run_from_unsafe w ⟨b,0,none⟩ Tryz.underlying308 Tryz.underlying147 hj sh liesWr];simp only[Result.andThen];rw[Oper.upon_value];go_wp2
    go_end0
    exact⟨rfl,h.used _,(Below.refl B w).setCell (p:=⟨b,0,none⟩) h.1 _,(Lib.OthersKept.refl _ _ w).setCell ⟨b,0,none⟩ rfl _⟩
  have c0:=h.cells.1;go_enter Tryz.func236,Tryz.ntmps236;go_wp2;rw[Lib.run_neq_ptr_same w _ Tryz.underlying147 hj];go_wp2
  go_end0
  exact⟨rfl,h,Below.refl B _,Lib.OthersKept.refl _ _ _⟩
theorem byteW_any (B b:Nat)(ar:ByteArray)(lev:Int)(bs:List Value)(c:Int)(w:World)(h:WrIn B b ar lev bs w)(hlen:bs.length+1<=140737488355328)(hBw:B<=w.heap.size):
    Calls Tryz.prog 196 #[.pointer (some ⟨b,0,none⟩),.int .u8 c] w fun e w'=>e=.returned .nilIface/\(WrIn B b ar lev (bs++[.int .u8 c]) w'/\Below B w w'/\Lib.OthersKept 5 (some b) w w'):=by
  obtain⟨i0,hi,hz0,hz1,hz2⟩:=info_parts Tryz.Builder_Extra_169.infoByte;go_enter Tryz.func196,Tryz.ntmps196;go_wp2_with fail;refine(copyW_any B b ar lev bs _ h).mono ?_;rintro e w1 ⟨rfl,h1,hb1,hk1⟩;obtain⟨hB,v,hbk,hown,hne⟩:=h1;have c1:w1.cell? ⟨b,1,none⟩=some v:=by rw[Lib.cell_of_heap hbk];rfl
  go_wp2_with (at_builtin;refine wpList_append_ownF _ rfl _ _ 148 rfl B 5 i0 (.int .u8 0) 1 1 Tryz.underlying148 hi hz0 hz1 hz2 rfl (by decide) _ _ _ rfl (hown.alloc _) ⟨w1.heap.size,0,none⟩ 1 1 [.int .u8 c] rfl rfl ?c1 ?c2 ?c3 ?c4 ?c5 ?_)
  case c1 =>
    intro j u hj
    match j,hj with
    | 0,hj=>simp at hj;subst hj;simp[Addr.add]
  case c2=>intro u hu;simp at hu;subst hu;rfl
  case c3=>unfold maxLen;omega
  case c4=>omega
  case c5=>have:=hb1.size;simp;omega
  intro v' w2 hown' hgrow hne';have hlt:b < w1.heap.size:=(Array.getElem?_eq_some_iff.1 hbk).1
  have hb2:w2.heap[b]? = some (.cells #[.pointer (some ⟨b,0,none⟩),v,.string ar,.int .i64 lev] 152 (0,0)):=by
    rw[hgrow.block b (by simp;omega) (fun e=>hne e.symm),Lib.alloc_old w1 _ b hlt];exact hbk
  have d1:w2.cell? ⟨b,1,none⟩=some v:=by rw[Lib.cell_of_heap hb2];rfl
  have f1:w2.frozen? ⟨b,1,none⟩=false:=Lib.frozen_of_heap hb2 1
  obtain⟨g,cap,rfl⟩:∃ g cap,v'=.slice (some ⟨g,0,none⟩) (bs.length+1) cap:=by
    rcases hown'.2 with⟨_,h0⟩ | ⟨g,cap,cur,fz,hv,_⟩
    · omega
    exact⟨g,cap,hv⟩
  go_wp2;go_ret;refine⟨rfl,.inr ?_,?_,((hk1.alloc _).grown hgrow (Lib.ownsRowF_kind (hown.alloc _))).setCell ⟨b,1,none⟩ rfl _⟩
  · exact WrAt.put hB hb2 (bs':=bs++[.int .u8 c]) (by simpa using hown')
  exact((hb1.alloc (by have:=hb1.size;omega) _).grown hgrow (by have:=hb1.size;simp;omega) (fun k hk=>(hown.lt k hk).1)).setCell (p:=⟨b,1,none⟩) hB _
theorem strW_any (B b:Nat)(ar:ByteArray)(lev:Int)(bs:List Value)(s:ByteArray)(w:World)(h:WrIn B b ar lev bs w)(hlen:bs.length+s.size<=140737488355328)(hBw:B<=w.heap.size):
    Calls Tryz.prog 190 #[.pointer (some ⟨b,0,none⟩),.string s] w fun e w'=>e=.returned (.tuple #[.int .i64 s.size,.nilIface])/\(WrIn B b ar lev (bs++Lib.strCells s) w'/\Below B w w'/\Lib.OthersKept 5 (some b) w w'):=by
  obtain⟨i0,hi,hz0,hz1,hz2⟩:=info_parts Tryz.Builder_Extra_169.infoByte;go_enter Tryz.func190,Tryz.ntmps190;go_wp2_with fail;refine(copyW_any B b ar lev bs _ h).mono ?_;rintro e w1 ⟨rfl,h1,hb1,hk1⟩;obtain⟨hB,v,hbk,hown,hne⟩:=h1;have c1:w1.cell? ⟨b,1,none⟩=some v:=by rw[Lib.cell_of_heap hbk];rfl
  go_wp2_with (at_builtin;refine Lib.wpList_append_own_stringF _ rfl _ _ 148 9 rfl B 5 i0 Tryz.underlying148 Tryz.underlying9 hi hz0 hz1 hz2 _ _ _ rfl hown s rfl ?c3 ?c4 ?c5 ?_)
  case c3=>unfold maxLen;omega
  case c4=>omega
  case c5=>have:=hb1.size;omega
  intro v' w2 hown' hgrow _;have hlt:b < w1.heap.size:=(Array.getElem?_eq_some_iff.1 hbk).1
  have hb2:w2.heap[b]? = some (.cells #[.pointer (some ⟨b,0,none⟩),v,.string ar,.int .i64 lev] 152 (0,0)):=by
    rw[hgrow.block b hlt (fun e=>hne e.symm)];exact hbk
  have d1:w2.cell? ⟨b,1,none⟩=some v:=by rw[Lib.cell_of_heap hb2];rfl
  have f1:w2.frozen? ⟨b,1,none⟩=false:=Lib.frozen_of_heap hb2 1
  obtain⟨ao,n',cap,rfl⟩:∃ ao n' cap,v'=.slice ao n' cap:=by
    rcases hown'.2 with⟨hv,_⟩ | ⟨g,cap,cur,fz,hv,_⟩
    · exact⟨_,_,_,hv⟩
    exact⟨_,_,_,hv⟩
  go_wp2
  go_ret2
  refine⟨rfl,.inr ?_,?_,(hk1.grown hgrow (Lib.ownsRowF_kind hown)).setCell ⟨b,1,none⟩ rfl _⟩
  · exact WrAt.put hB hb2 (bs':=bs++Lib.strCells s) (by simpa [Lib.strCells_length] using hown')
  exact(hb1.grown hgrow (by have:=hb1.size;omega) (fun k hk=>(hown.lt k hk).1)).setCell (p:=⟨b,1,none⟩) hB _
def Wr (B b:Nat)(ar:ByteArray)(lev:Int)(l:List UInt8)(w:World):Prop:=WrIn B b ar lev (Lib.byteCells l) w
theorem cells_app (l m:List UInt8):Lib.byteCells (l++m)=Lib.byteCells l++Lib.byteCells m:=by unfold Lib.byteCells;simp
theorem strT_any (B b:Nat)(ar:ByteArray)(lev:Int)(l:List UInt8)(s:ByteArray)(w:World)(h:Wr B b ar lev l w)(hlen:l.length+s.size<=140737488355328)(hBw:B<=w.heap.size):
    Calls Tryz.prog 190 #[.pointer (some ⟨b,0,none⟩),.string s] w fun e w'=>e=.returned (.tuple #[.int .i64 s.size,.nilIface])/\(Wr B b ar lev (l++s.data.toList) w'/\Below B w w'/\Lib.OthersKept 5 (some b) w w'):=by
  have:=strW_any B b ar lev (Lib.byteCells l) s w h (by rw[Lib.byteCells_length];exact hlen) hBw;rw[Qo.bytes_str,<- cells_app] at this;exact this
theorem byteT_any (B b:Nat)(ar:ByteArray)(lev:Int)(l:List UInt8)(c:UInt8)(w:World)(h:Wr B b ar lev l w)(hlen:l.length+1<=140737488355328)(hBw:B<=w.heap.size):
    Calls Tryz.prog 196 #[.pointer (some ⟨b,0,none⟩),.int .u8 c.toNat] w fun e w'=>e=.returned .nilIface/\(Wr B b ar lev (l++[c]) w'/\Below B w w'/\Lib.OthersKept 5 (some b) w w'):=by
  have:=byteW_any B b ar lev (Lib.byteCells l) c.toNat w h (by rw[Lib.byteCells_length];exact hlen) hBw;rw[show [Value.int .u8 c.toNat]=Lib.byteCells [c] from rfl,<- cells_app] at this;exact this
end Go.Proofs.YtjaeedbjknejdaaGreatDoor.Tr

namespace Go.Proofs.YtjaeedbjknejdaaGreatDoor.Tr
open Go.RowKit Go.Sort Go.Lib Go.Shelf Fx Lx
def catT : List ByteArray->List UInt8
  | []=>[]
  | x::r=>x.data.toList++catT r
theorem catT_app : ∀ l m:List ByteArray,catT (l++m)=catT l++catT m
  | [],m=>rfl
  | x::r,m=>by rw[List.cons_append,catT,catT,catT_app r m,List.append_assoc]
theorem indT_succ (k:Nat):indT (k+1)=indT k++[32,32,32,32]:=by
  unfold indT;rw[show 4 * (k+1)=4 * k+4 by omega,<- List.replicate_append_replicate];rfl
theorem Wr.cells {B b:Nat}{ar:ByteArray}{lev:Int}{l:List UInt8}{w:World}(h:Wr B b ar lev l w):w.cell? ⟨b,2,none⟩=some (.string ar)/\w.cell? ⟨b,3,none⟩=some (.int .i64 lev)/\w.frozen? ⟨b,3,none⟩=false:=by
  rcases h with h | h <;> exact⟨h.cells.2.1,h.cells.2.2.1,h.cells.2.2.2.2⟩
def Kp (B b:Nat)(w w':World):Prop:=Below B w w'/\Lib.OthersKept 5 (some b) w w'
theorem Kp.refl (B b:Nat)(w:World):Kp B b w w:=⟨Below.refl _ _,Lib.OthersKept.refl _ _ _⟩
theorem Kp.trans {B b:Nat}{w1 w2 w3:World}(h:Kp B b w1 w2)(k:Kp B b w2 w3):Kp B b w1 w3:=⟨h.1.trans k.1,h.2.trans k.2⟩
theorem Kp.row {B b g:Nat}{w w':World}{cs:Array Value}{fz:Nat × Nat}(h:Kp B b w w')(hg:w.heap[g]? = some (.cells cs 9 fz))(hne:g ≠ b):w'.heap[g]? = some (.cells cs 9 fz) :=
  h.2 g _ hg (by simpa using hne) (fun c f e=>by injection e with _ h _;exact absurd h (by decide))
theorem line_any (B b lev g:Nat)(ar:ByteArray)(l:List UInt8)(P:List ByteArray)(w:World)(h:Wr B b ar lev l w)(hg:w.heap[g]? = some (.cells (P.map Value.string).toArray 9 (0,0)))(hne:g ≠ b)(hBw:B<=w.heap.size)
    (hP:P.length<=9223372036854775807) (hlen:l.length+4 * lev+(catT P).length+1<=140737488355328) :
    Calls Tryz.prog 147 #[.pointer (some ⟨b,0,none⟩),.slice (some ⟨g,0,none⟩) P.length P.length] w fun e w'=>e=.returned (.tuple #[])/\Wr B b ar lev (l++indT lev++catT P++[10]) w'/\Kp B b w w':=by
  obtain⟨N,hN⟩:∃ N,N=P.length:=⟨_,rfl⟩;rw[<-hN] at hP ⊢;have q3:=h.cells.2.1;have HN:=Lib.hid hN;have HG:=Lib.hid hg;have HL:=Lib.hid hlen;have HW:Hid (Wr B b ar lev (l++indT 0) w):=Lib.hid (by rw[show indT 0=[] from rfl,List.append_nil];exact h);have hlev:lev<=140737488355328:=by omega
  clear h hg hlen hN;go_enter Tryz.func147,Tryz.ntmps147;go_wp2
  go_loopw [10] (fun i' wr=>∃ k:Nat,k<=lev/\i'=.int .i64 k/\Hid (Wr B b ar lev (l++indT k) wr)/\Kp B b w wr) (fun i' _=>lev - (RowKit.intOf i').toNat)
  case atStart=>exact⟨0,by omega,rfl,HW,Kp.refl _ _ _⟩
  obtain⟨k,hk,rfl,hw,hx⟩:=hrel;clear HW;by_cases hlt:k < lev
  · have hc:=strT_any B b ar lev (l++indT k) ⟨#[32,32,32,32]⟩ wr hw.out (by have:=HL.out;rw[List.length_append];unfold indT;rw[List.length_replicate];show _+4<=_;omega) (Nat.le_trans hBw hx.1.size);have HC:=Lib.hid hc;clear hc;go_wp2_with (go_at_call 190;refine HC.out.mono ?_;rintro e w1 ⟨rfl,h1,x1⟩)
    go_roundw
    case rel=>exact⟨k+1,by omega,by go_num,Lib.hid (by rw[indT_succ,<- List.append_assoc];exact h1),hx.trans x1⟩
    case measure=>simp[RowKit.intOf];omega
  have hkl:k=lev:=by omega
  subst hkl;have hw2:Hid (Wr B b ar k (l++indT k++catT (P.take 0)) wr):=Lib.hid (by rw[List.take_zero,catT,List.append_nil];exact hw.out);clear hw;obtain⟨wo,hwo⟩:∃ wo,wo=wr:=⟨_,rfl⟩;go_wp2
  go_loopw [19] (fun i' wr=>∃ j:Nat,j<=N/\i'=.int .i64 j/\Hid (Wr B b ar k (l++indT k++catT (P.take j)) wr)/\Kp B b w wr) (fun i' _=>N - (RowKit.intOf i').toNat)
  case atStart=>exact⟨0,by omega,rfl,hw2,hx⟩
  obtain⟨j,hj,rfl,hw,hx⟩:=hrel;by_cases hlt:j < N
  · have hjl:j < P.length:=by rw[<-HN.out];exact hlt
    obtain⟨t,ht⟩:∃ t,t=P[j]:=⟨_,rfl⟩;have hrow:=hx.row HG.out hne
    have hc0:wr.cell? ⟨g,j,none⟩=some (.string t):=by
      rw[Lib.cell_of_heap hrow];simp[hjl,ht]
    have htk:catT (P.take (j+1))=catT (P.take j)++t.data.toList:=by
      rw[List.take_succ_eq_append_getElem hjl,catT_app,<- ht];simp[catT]
    have hle:(catT (P.take (j+1))).length<=(catT P).length:=by
      have h:=catT_app (P.take (j+1)) (P.drop (j+1));rw[List.take_append_drop] at h;rw[h,List.length_append];omega
    have hsz:=size_len t
    have hc:=strT_any B b ar k (l++indT k++catT (P.take j)) t wr hw.out (by
      have:=HL.out;rw[htk,List.length_append] at hle
      rw[List.length_append,List.length_append];unfold indT;rw[List.length_replicate];omega) (Nat.le_trans hBw hx.1.size)
    have HC:=Lib.hid hc;have HTK:=Lib.hid htk;clear hc htk hle hsz hrow ht hjl;go_wp2_with (go_at_call 190;refine HC.out.mono ?_;rintro e w1 ⟨rfl,h1,x1⟩)
    go_roundw
    case rel=>exact⟨j+1,by omega,by go_num,Lib.hid (by rw[HTK.out,<- List.append_assoc];exact h1),hx.trans x1⟩
    case measure=>simp[RowKit.intOf];omega
  have hjn:j=P.length:=by have:=HN.out;omega
  have hc:=byteT_any B b ar k (l++indT k++catT P) 10 wr (by have:=hw.out;rw[hjn,List.take_length] at this;exact this) (by
    have:=HL.out
    rw[List.length_append,List.length_append];unfold indT;rw[List.length_replicate];omega) (Nat.le_trans hBw hx.1.size)
  have HC:=Lib.hid hc;clear hc hjn;go_wp2_with (go_at_call 196;refine HC.out.mono ?_;rintro e w1 ⟨rfl,h1,x1⟩);go_returns;exact⟨rfl,h1,hx.trans x1⟩
end Go.Proofs.YtjaeedbjknejdaaGreatDoor.Tr

namespace Go.Proofs.YtjaeedbjknejdaaGreatDoor.Tr
open Go.RowKit Go.Sort Go.Lib Go.Shelf Fx Lx
theorem Wr.ext {B b:Nat}{ar:ByteArray}{lev:Int}{l:List UInt8}{w w':World}(h:Wr B b ar lev l w)(x:Ext w w'):Wr B b ar lev l w':=WrIn.ext h x
theorem Wr.lt {B b:Nat}{ar:ByteArray}{lev:Int}{l:List UInt8}{w:World}(h:Wr B b ar lev l w):b < w.heap.size:=by rcases h with h | h <;> exact h.lt
theorem Kp.of {B b:Nat}{w w':World}(hB:B<=w.heap.size)(x:Ext w w'):Kp B b w w' :=
  ⟨x.mono hB,fun k o hk _ _=>(x.block k (Array.getElem?_eq_some_iff.1 hk).1).trans hk⟩
theorem Kp.blk {B b g:Nat}{w w':World}{cs:Array Value}{T:TypeId}{fz:Nat × Nat}(h:Kp B b w w')(hg:w.heap[g]? = some (.cells cs T fz))(hne:g ≠ b)(hT:T ≠ 5):w'.heap[g]? = some (.cells cs T fz) :=
  h.2 g _ hg (by simpa using hne) (fun c f e=>by injection e with _ h _;exact hT h)
theorem node_any (B b lev:Nat)(ar:ByteArray)(l:List UInt8)(k:Int)(nm:ByteArray)(R C rc ac bc:Nat)(r a b':Option Addr)(al:List Two)(w:World)(h:Wr B b ar lev l w)(hB:B<=w.heap.size)(he:Env w)(ha:TwoIn w a al)
    (hL:al.length<=2000000) (hs:∀ q ∈ al,q.2.size < 4294967281) (hlen:l.length+4 * lev+nm.size+(tailT al).length+100<=140737488355328) :
    Calls Tryz.prog 197 #[.pointer (some ⟨b,0,none⟩),.agg #[.int .i64 k,.string nm,.slice r R rc,.slice a al.length ac,.slice b' C bc]] w fun e w'=>e=.returned (.tuple #[])/\Wr B b ar lev (l++indT lev++(nm.data.toList++tailT al)++[10]) w'/\Kp B b w w':=by
  have hx0:Ext w (w.alloc (.cells #[.int .i64 k,.string nm,.slice r R rc,.slice a al.length ac,.slice b' C bc] 67)):=(Ext.refl _).alloc _;obtain⟨T,hT⟩:∃ T:ByteArray,T=⟨(tailT al).toArray⟩:=⟨_,rfl⟩;have htl:=fun w' (x:Ext w w')=>tail_any a al ac w' (ha.ext x) hL hs (by omega) (he.ext x)
  rw[<-hT] at htl;have hbl:=h.lt;have hTl:T.data.toList=tailT al:=by rw[hT]
  have hcat:catT [nm,T]=nm.data.toList++tailT al:=by simp[catT,hTl]
  have hline:=fun w1 (x:Ext w w1)=>line_any B b lev w1.heap.size ar l [nm,T] (w1.alloc (.cells #[.string nm,.string T] 9)) (h.ext (x.alloc _)) (heap_alloc_new w1 _) (by have:=x.size;omega) (by have:=x.size;simp;omega) (by simp) (by rw[hcat,List.length_append,<- size_len];omega)
  rw[hcat] at hline;have hcl:=stm_cells w k nm r a b' R al.length C rc ac bc;generalize al.length=A at *;have HT:=Lib.hid htl;have HL:=Lib.hid hline;have HX:=Lib.hid hx0;have HCL:=Lib.hid hcl;have HBL:=Lib.hid hbl;have HB:=Lib.hid hB;clear htl hline hx0 h hB he ha hL hs hlen hT hTl hcat hcl hbl;have e1:=(HCL.out _ (Ext.refl _)).2.1;have e3:=(HCL.out _ (Ext.refl _)).2.2.2.1;go_enter Tryz.func197,Tryz.ntmps197;go_wp2_with fail
  go_region_held3 (fun w'=>w'.cell? ⟨w.heap.size,1,none⟩=some (.string nm)/\w'.cell? ⟨w.heap.size,3,none⟩=some (.slice a A ac))
    (first | exact⟨e1,e3⟩ | exact⟨(HCL.out _ x1).2.1,(HCL.out _ x1).2.2.2.1⟩ | exact⟨(HCL.out _ (x1.alloc _)).2.1,(HCL.out _ (x1.alloc _)).2.2.2.1⟩ | exact f2)
    (first
      | (go_at_call 239;refine(HT.out _ (HX.out.trans (Ext.refl _).drew)).mono ?_;rintro e w1 ⟨rfl,x1⟩;replace x1:Ext (w.alloc (.cells #[.int .i64 k,.string nm,.slice r R rc,.slice a A ac,.slice b' C bc] 67)) w1:=((Ext.refl _).drew).trans x1)
      | (go_at_call 147;refine(HL.out _ (HX.out.trans x1)).mono ?_;rintro e w2 ⟨rfl,h2,x2⟩;have f2:w2.cell? ⟨w.heap.size,1,none⟩=some (.string nm)/\w2.cell? ⟨w.heap.size,3,none⟩=some (.slice a A ac):=(by
          have hb:=x2.blk (((x1.alloc (.cells #[.string nm,.string T] 9)).block w.heap.size (by simp)).trans (heap_alloc_new w _)) (by have:=HBL.out;omega) (by decide)
          constructor <;> rw[Lib.cell_of_heap hb] <;> rfl)))
  go_wp2
  go_end0
  exact⟨rfl,h2,(Kp.of HB.out ((HX.out.trans x1).alloc _)).trans x2⟩
theorem defaults_any (B b lev:Nat)(ar:ByteArray)(l:List UInt8)(k:Int)(nm:ByteArray)(R C rc ac bc:Nat)(r a b':Option Addr)(al:List Two)(w:World)(h:Wr B b ar lev l w)(hB:B<=w.heap.size)(he:Env w)(ha:TwoIn w a al)
    (hL:al.length<=2000000) (hs:∀ q ∈ al,q.2.size < 4294967281) (hlen:l.length+4 * lev+nm.size+(listedT al).length+100<=140737488355328) :
    Calls Tryz.prog 199 #[.pointer (some ⟨b,0,none⟩),.agg #[.int .i64 k,.string nm,.slice r R rc,.slice a al.length ac,.slice b' C bc]] w fun e w'=>e=.returned (.tuple #[])/\Wr B b ar lev (l++indT lev++(nm.data.toList++[32]++listedT al++[59])++[10]) w'/\Kp B b w w':=by
  have hx0:Ext w (w.alloc (.cells #[.int .i64 k,.string nm,.slice r R rc,.slice a al.length ac,.slice b' C bc] 67)):=(Ext.refl _).alloc _;obtain⟨T,hT⟩:∃ T:ByteArray,T=⟨(listedT al).toArray⟩:=⟨_,rfl⟩;have htl:=fun w' (x:Ext w w')=>listed_any a al ac w' (ha.ext x) hL hs (by omega) (he.ext x)
  rw[<-hT] at htl;have hbl:=h.lt;have hTl:T.data.toList=listedT al:=by rw[hT]
  have hcat:catT [nm,⟨#[32]⟩,T,⟨#[59]⟩]=nm.data.toList++[32]++listedT al++[59]:=by simp[catT,hTl]
  have hline:=fun w1 (x:Ext w w1)=>line_any B b lev w1.heap.size ar l [nm,⟨#[32]⟩,T,⟨#[59]⟩] (w1.alloc (.cells #[.string nm,.string ⟨#[32]⟩,.string T,.string ⟨#[59]⟩] 9)) (h.ext (x.alloc _)) (heap_alloc_new w1 _) (by have:=x.size;omega) (by have:=x.size;simp;omega) (by simp) (by rw[hcat];simp only[List.length_append,List.length_cons,List.length_nil];rw[<-size_len];omega)
  rw[hcat] at hline;have hcl:=stm_cells w k nm r a b' R al.length C rc ac bc;generalize al.length=A at *;have HT:=Lib.hid htl;have HL:=Lib.hid hline;have HX:=Lib.hid hx0;have HCL:=Lib.hid hcl;have HBL:=Lib.hid hbl;have HB:=Lib.hid hB;clear htl hline hx0 h hB he ha hL hs hlen hT hTl hcat hcl hbl;have e1:=(HCL.out _ (Ext.refl _)).2.1;have e3:=(HCL.out _ (Ext.refl _)).2.2.2.1;go_enter Tryz.func199,Tryz.ntmps199;go_wp2_with fail
  go_region_held3 (fun w'=>w'.cell? ⟨w.heap.size,1,none⟩=some (.string nm)/\w'.cell? ⟨w.heap.size,3,none⟩=some (.slice a A ac))
    (first | exact⟨e1,e3⟩ | exact⟨(HCL.out _ x1).2.1,(HCL.out _ x1).2.2.2.1⟩ | exact⟨(HCL.out _ (x1.alloc _)).2.1,(HCL.out _ (x1.alloc _)).2.2.2.1⟩ | exact f2)
    (first
      | (go_at_call 240;refine(HT.out _ (HX.out.trans (Ext.refl _).drew)).mono ?_;rintro e w1 ⟨rfl,x1⟩;replace x1:Ext (w.alloc (.cells #[.int .i64 k,.string nm,.slice r R rc,.slice a A ac,.slice b' C bc] 67)) w1:=((Ext.refl _).drew).trans x1)
      | (go_at_call 147;refine(HL.out _ (HX.out.trans x1)).mono ?_;rintro e w2 ⟨rfl,h2,x2⟩;have f2:w2.cell? ⟨w.heap.size,1,none⟩=some (.string nm)/\w2.cell? ⟨w.heap.size,3,none⟩=some (.slice a A ac):=(by
          have hb:=x2.blk (((x1.alloc (.cells #[.string nm,.string ⟨#[32]⟩,.string T,.string ⟨#[59]⟩] 9)).block w.heap.size (by simp)).trans (heap_alloc_new w _)) (by have:=HBL.out;omega) (by decide)
          constructor <;> rw[Lib.cell_of_heap hb] <;> rfl)))
  go_wp2
  go_end0
  exact⟨rfl,h2,(Kp.of HB.out ((HX.out.trans x1).alloc _)).trans x2⟩
theorem set_any (B b lev:Nat)(ar:ByteArray)(l:List UInt8)(k:Int)(nm:ByteArray)(R C rc ac bc g o:Nat)(r b':Option Addr)(kk v:ByteArray)(w:World)(h:Wr B b ar lev l w)(hB:B<=w.heap.size)(he:Env w)(hg:g < B)(hv:w.cell? ⟨g,o+1,none⟩=some (.string v))
    (hs:v.size < 4294967281) (hlen:l.length+4 * lev+nm.size+(valueT v).length+100<=140737488355328) :
    Calls Tryz.prog 200 #[.pointer (some ⟨b,0,none⟩),.agg #[.int .i64 k,.string nm,.slice r R rc,.slice (some ⟨g,o,none⟩) 1 ac,.slice b' C bc]] w fun e w'=>e=.returned (.tuple #[])/\Wr B b ar lev (l++indT lev++([115,101,116,32]++nm.data.toList++[32,61,32]++valueT v++[59])++[10]) w'/\Kp B b w w':=by
  have hx0:Ext w (w.alloc (.cells #[.int .i64 k,.string nm,.slice r R rc,.slice (some ⟨g,o,none⟩) 1 ac,.slice b' C bc] 67)):=(Ext.refl _).alloc _;obtain⟨T,hT⟩:∃ T:ByteArray,T=⟨(valueT v).toArray⟩:=⟨_,rfl⟩;have htl:=fun w' (x:Ext w w')=>value_any v w' hs (he.ext x)
  rw[<-hT] at htl;have hbl:=h.lt;have hTl:T.data.toList=valueT v:=by rw[hT]
  have hcat:catT [⟨#[115,101,116,32]⟩,nm,⟨#[32,61,32]⟩,T,⟨#[59]⟩]=[115,101,116,32]++nm.data.toList++[32,61,32]++valueT v++[59]:=by simp[catT,hTl]
  have hline:=fun w1 (x:Ext w w1)=>line_any B b lev w1.heap.size ar l [⟨#[115,101,116,32]⟩,nm,⟨#[32,61,32]⟩,T,⟨#[59]⟩] (w1.alloc (.cells #[.string ⟨#[115,101,116,32]⟩,.string nm,.string ⟨#[32,61,32]⟩,.string T,.string ⟨#[59]⟩] 9)) (h.ext (x.alloc _)) (heap_alloc_new w1 _) (by have:=x.size;omega) (by have:=x.size;simp;omega) (by simp) (by rw[hcat];simp only[List.length_append,List.length_cons,List.length_nil];rw[<-size_len];omega)
  rw[hcat] at hline;have hcl:=stm_cells w k nm r (some ⟨g,o,none⟩) b' R 1 C rc ac bc;have HT:=Lib.hid htl;have HL:=Lib.hid hline;have HX:=Lib.hid hx0;have HCL:=Lib.hid hcl;have HBL:=Lib.hid hbl;have HB:=Lib.hid hB;have HG:=Lib.hid hg;have HV:=Lib.hid hv;clear htl hline hx0 h hB he hs hlen hT hTl hcat hcl hbl hg hv;have e1:=(HCL.out _ (Ext.refl _)).2.1;have e3:=(HCL.out _ (Ext.refl _)).2.2.2.1;have e4:=HX.out.cell HV.out;go_enter Tryz.func200,Tryz.ntmps200;go_wp2_with fail
  go_region_held3 (fun w'=>w'.cell? ⟨w.heap.size,1,none⟩=some (.string nm)/\w'.cell? ⟨w.heap.size,3,none⟩=some (.slice (some ⟨g,o,none⟩) 1 ac)/\w'.cell? ⟨g,o+1,none⟩=some (.string v))
    (first | exact⟨e1,e3,e4⟩ | exact⟨(HCL.out _ x1).2.1,(HCL.out _ x1).2.2.2.1,(HX.out.trans x1).cell HV.out⟩ | exact⟨(HCL.out _ (x1.alloc _)).2.1,(HCL.out _ (x1.alloc _)).2.2.2.1,((HX.out.trans x1).alloc _).cell HV.out⟩ | exact f2)
    (first
      | (go_at_call 241;refine(HT.out _ (HX.out.trans (Ext.refl _).drew)).mono ?_;rintro e w1 ⟨rfl,x1⟩;replace x1:Ext (w.alloc (.cells #[.int .i64 k,.string nm,.slice r R rc,.slice (some ⟨g,o,none⟩) 1 ac,.slice b' C bc] 67)) w1:=((Ext.refl _).drew).trans x1)
      | (go_at_call 147;refine(HL.out _ (HX.out.trans x1)).mono ?_;rintro e w2 ⟨rfl,h2,x2⟩;have f2:w2.cell? ⟨w.heap.size,1,none⟩=some (.string nm)/\w2.cell? ⟨w.heap.size,3,none⟩=some (.slice (some ⟨g,o,none⟩) 1 ac)/\w2.cell? ⟨g,o+1,none⟩=some (.string v):=(by
          have hb:=x2.blk (((x1.alloc (.cells #[.string ⟨#[115,101,116,32]⟩,.string nm,.string ⟨#[32,61,32]⟩,.string T,.string ⟨#[59]⟩] 9)).block w.heap.size (by simp)).trans (heap_alloc_new w _)) (by have:=HBL.out;omega) (by decide);refine⟨?_,?_,?_⟩
          · rw[Lib.cell_of_heap hb];rfl
          · rw[Lib.cell_of_heap hb];rfl
          · rw[x2.1.cell (p:=⟨g,o+1,none⟩) HG.out];exact((HX.out.trans x1).alloc _).cell HV.out)))
  go_wp2
  go_end0
  exact⟨rfl,h2,(Kp.of HB.out ((HX.out.trans x1).alloc _)).trans x2⟩
end Go.Proofs.YtjaeedbjknejdaaGreatDoor.Tr

namespace Go.Proofs.YtjaeedbjknejdaaGreatDoor.Tr
open Go.RowKit Go.Sort Go.Lib Go.Shelf Fx Lx
theorem joinOwn (B:Nat)(v:Value)(L:List (List UInt8))(sep:ByteArray)(w:World)(hown:w.ownsRow B 9 1 v L.length (strsV L))(hN:L.length<=2000000)(hlen:(sepT sep.data.toList L).length<=140737488355328):
    Calls Tryz.prog 133 #[v,.string sep] w fun e w'=>e=.returned (.string ⟨(sepT sep.data.toList L).toArray⟩)/\Ext w w':=by
  rcases hown.2 with⟨rfl,h0⟩ | ⟨g,cp,cur,rfl,hbg,hg,r1,r2,r3,r4⟩
  · have hL0:L=[]:=List.eq_nil_of_length_eq_zero h0;subst hL0;refine(Tryz.strings_Join_none none 0 _ w).mono ?_;rintro e w' ⟨rfl,rfl⟩;exact⟨rfl,Ext.refl _⟩
  have hc:=Tryz.strings_Join g 0 cp (L.map (fun l=>(⟨l.toArray⟩:ByteArray))) sep w (fun j x hjx=>by
      have hc:=hown.cells (g:=g) rfl j (.string x) (by
        unfold strsV;rw[List.getElem?_map] at hjx ⊢;obtain⟨y,hy,rfl⟩:=Option.map_eq_some_iff.1 hjx
        rw[hy];rfl)
      have ha:(⟨g,0,none⟩:Addr).add j=⟨g,0+j,none⟩:=by unfold Addr.add;split <;> simp_all
      rw[ha] at hc;exact hc) (Array.getElem?_eq_some_iff.1 hg).1 (by simp;omega) (by simp;omega) (by
      rw[mapBack,<- sepT_join];omega)
  rw[mapBack,<- sepT_join,List.length_map] at hc;exact hc
theorem port_app (k p:ByteArray):k++((⟨#[58]⟩:ByteArray)++p)=⟨(k.data.toList++58::p.data.toList).toArray⟩:=by
  apply ByteArray.ext;simp[ByteArray.data_append]
theorem ref_le (sep:List UInt8)(L:List Two)(q:Two)(h:q ∈ L):q.1.size+q.2.size<=(sepT sep (L.map refT)).length:=by
  have:=sepT_le sep (refT q) (L.map refT) (List.mem_map_of_mem h)
  have e:q.1.size+q.2.size<=(refT q).length:=by
    unfold refT;rw[List.length_append,<- size_len];split
    · omega
    rw[List.length_cons,<- size_len];omega
  omega
theorem edge_any (B b lev:Nat)(ar:ByteArray)(l:List UInt8)(kd:Int)(nm:ByteArray)(C rc ac bc:Nat)(r a b':Option Addr)(rs al:List Two)(w:World)(h:Wr B b ar lev l w)(hB:B<=w.heap.size)(he:Env w)(ha:TwoIn w a al)(hr:TwoIn w r rs)
    (hL:al.length<=2000000) (hR:rs.length<=2000000) (hs:∀ q ∈ al,q.2.size < 4294967281) (har:ar.size<=100)
    (hlen:l.length+4 * lev+(sepT (32::(ar.data.toList++[32])) (rs.map refT)).length+(tailT al).length+100<=140737488355328) :
    Calls Tryz.prog 198 #[.pointer (some ⟨b,0,none⟩),.agg #[.int .i64 kd,.string nm,.slice r rs.length rc,.slice a al.length ac,.slice b' C bc]] w fun e w'=>e=.returned (.tuple #[])/\Wr B b ar lev (l++indT lev++(sepT (32::(ar.data.toList++[32])) (rs.map refT)++tailT al)++[10]) w'/\Kp B b w w':=by
  obtain⟨i0,hi,hz0,hz1,hz2⟩:=info_parts info_str;have hx0:Ext w (w.alloc (.cells #[.int .i64 kd,.string nm,.slice r rs.length rc,.slice a al.length ac,.slice b' C bc] 67)):=(Ext.refl _).alloc _;obtain⟨T,hT⟩:∃ T:ByteArray,T=⟨(tailT al).toArray⟩:=⟨_,rfl⟩;obtain⟨J,hJ⟩:∃ J:ByteArray,J=⟨(sepT (32::(ar.data.toList++[32])) (rs.map refT)).toArray⟩:=⟨_,rfl⟩;have htl:=fun w' (x:Ext w w')=>tail_any a al ac w' (ha.ext x) hL hs (by omega) (he.ext x)
  rw[<-hT] at htl;have hbl:=h.lt;have hcat:catT [J,T]=sepT (32::(ar.data.toList++[32])) (rs.map refT)++tailT al:=by simp[catT,hT,hJ]
  have hline:=fun w1 (x:Ext w w1)=>line_any B b lev w1.heap.size ar l [J,T] (w1.alloc (.cells #[.string J,.string T] 9)) (h.ext (x.alloc _)) (heap_alloc_new w1 _) (by have:=x.size;omega) (by have:=x.size;simp;omega) (by simp) (by rw[hcat,List.length_append];omega)
  rw[hcat] at hline;have hcl:=stm_cells w kd nm r a b' rs.length al.length C rc ac bc;have hwc:=fun w1 (x:Ext w w1)=>(h.ext x).cells.1
  generalize al.length=A at *;obtain⟨N,hN⟩:∃ N,N=rs.length:=⟨_,rfl⟩;rw[<-hN] at hR hcl hx0 ⊢;have HT:=Lib.hid htl;have HL:=Lib.hid hline;have HX:=Lib.hid hx0;have HCL:=Lib.hid hcl;have HWC:=Lib.hid hwc;have HBL:=Lib.hid hbl;have HB:=Lib.hid hB;have HN:=Lib.hid hN;have HRI:=Lib.hid hr;have HJ:=Lib.hid hJ;have HLEN:=Lib.hid hlen;have hadd:∀ w,(Op.stringOp .add ⟨#[32]⟩ ar).run Tryz.prog w=.ok (.string (⟨#[32]⟩++ar)) w:=fun w=>run_string_add_sum w _ _ (by show 1+_<=_;omega)
  have hadd2:∀ w,(Op.stringOp .add (⟨#[32]⟩++ar) ⟨#[32]⟩).run Tryz.prog w=.ok (.string (⟨#[32]⟩++ar++⟨#[32]⟩)) w:=fun w=>run_string_add_sum w _ _ (by rw[ByteArray.size_append];show 1+_+1<=_;omega)
  clear htl hline hx0 h hB he ha hL hs hlen hT hcat hcl hbl hwc hN hr hJ har;go_enter Tryz.func198,Tryz.ntmps198;go_wp2
  go_loopw [4,11] (fun p i' wr=>∃ (k:Nat) (v:Value),k<=N/\v=p/\i'=.int .i64 k/\Ext (w.alloc (.cells #[.int .i64 kd,.string nm,.slice r N rc,.slice a A ac,.slice b' C bc] 67)) wr/\Hid (wr.ownsRow (w.heap.size+1) 9 1 v k (strsV ((rs.take k).map refT)))) (fun _ i' _=>N - (RowKit.intOf i').toNat)
  case atStart=>exact⟨0,_,by omega,rfl,rfl,Ext.refl _,Lib.hid (by rw[List.take_zero];exact World.ownsRow_nil _ _ _ _)⟩
  obtain⟨k,v,hk,rfl,rfl,hx,hown⟩:=hrel;by_cases hlt:k < N
  · have hkl:k < rs.length:=by rw[<-HN.out];exact hlt
    obtain⟨g,o,rfl,c0,c1⟩:=(HRI.out.ext (HX.out.trans hx)) k hkl;obtain⟨n,d,hq⟩:∃ n d,rs[k]=(n,d):=⟨_,_,rfl⟩;rw[hq] at c0 c1;have hle:=ref_le (32::(ar.data.toList++[32])) rs _ (List.getElem_mem hkl);rw[hq] at hle;have n9:n.size+d.size<=140737488355328:=by have:=HLEN.out;dsimp only at hle;omega
    have hxb:Ext wr (wr.alloc (.cells #[.string n,.string d] 90)):=(Ext.refl _).alloc _;have hz:=@size0 d
    have hpart:∀ t:ByteArray,t.data.toList=refT (n,d)->strsV ((rs.take (k+1)).map refT)=strsV ((rs.take k).map refT)++[.string t]:=fun t ht=>by
      rw[List.take_succ_eq_append_getElem hkl,List.map_append,hq];unfold strsV;rw[List.map_append,List.map_cons,List.map_nil,List.map_cons,List.map_nil,<- ht,Lib.mk_data]
    have HP:=Lib.hid hpart;clear hpart hle hq hkl;by_cases hd:d.size=0
    · rw[decide_eq_true hd] at hz;have hr0:n.data.toList=refT (n,d):=by unfold refT;rw[if_pos hd,List.append_nil]
      have HR0:=Lib.hid hr0;clear hr0 hd;go_wp2_with (at_builtin;refine wpList_append_own _ rfl _ _ 43 rfl (w.heap.size+1) 9 i0 _ 1 16 Tryz.underlying43 hi hz0 hz1 hz2 rfl (by decide) _ _ _ rfl (own_ext' hown.out (hxb.alloc _)) ⟨wr.heap.size+1,0,none⟩ 1 1 [.string n] rfl rfl ?c1 ?c2 ?c3 ?c4 ?c5 ?_)
      case c2=>rfl
      case c3=>unfold maxLen;omega
      case c4=>omega
      case c5=>have:=(hx.trans hxb).size;simp at this ⊢;omega
      intro v' w2 hown' hgrow _;go_wp2
      go_roundw
      case rel=>exact⟨k+1,_,by omega,rfl,by go_num,((hx.trans hxb).alloc (.cells #[.string n] 9)).grown hgrow (by have:=(hx.trans hxb).size;simp at this ⊢;omega) (fun k hk=>by have:=(hown.out.lt k hk).1;simpa using this),Lib.hid (by rw[HP.out n HR0.out,List.map_take];exact hown')⟩
      case measure=>simp[RowKit.intOf];omega
    rw[decide_eq_false hd] at hz;have hr0:(n++((⟨#[58]⟩:ByteArray)++d)).data.toList=refT (n,d):=by rw[port_app];unfold refT;rw[if_neg hd]
    have HR0:=Lib.hid hr0;have hadd3:∀ w,(Op.stringOp .add ⟨#[58]⟩ d).run Tryz.prog w=.ok (.string (⟨#[58]⟩++d)) w:=fun w=>run_string_add_sum w _ _ (by show 1+_<=_;omega)
    have hadd4:∀ w,(Op.stringOp .add n (⟨#[58]⟩++d)).run Tryz.prog w=.ok (.string (n++(⟨#[58]⟩++d))) w:=fun w=>run_string_add_sum w _ _ (by rw[ByteArray.size_append];show _+(1+_)<=_;omega)
    clear hr0 hd;go_wp2_with (at_builtin;refine wpList_append_own _ rfl _ _ 43 rfl (w.heap.size+1) 9 i0 _ 1 16 Tryz.underlying43 hi hz0 hz1 hz2 rfl (by decide) _ _ _ rfl (own_ext' hown.out (hxb.alloc _)) ⟨wr.heap.size+1,0,none⟩ 1 1 [.string (n++(⟨#[58]⟩++d))] rfl rfl ?d1 ?d2 ?d3 ?d4 ?d5 ?_)
    case d2=>rfl
    case d3=>unfold maxLen;omega
    case d4=>omega
    case d5=>have:=(hx.trans hxb).size;simp at this ⊢;omega
    intro v' w2 hown' hgrow _;go_wp2
    go_roundw
    case rel=>exact⟨k+1,_,by omega,rfl,by go_num,((hx.trans hxb).alloc (.cells #[.string (n++(⟨#[58]⟩++d))] 9)).grown hgrow (by have:=(hx.trans hxb).size;simp at this ⊢;omega) (fun k hk=>by have:=(hown.out.lt k hk).1;simpa using this),Lib.hid (by rw[HP.out _ HR0.out,List.map_take];exact hown')⟩
    case measure=>simp[RowKit.intOf];omega
  have hkn:k=rs.length:=by have:=HN.out;omega
  have hown':=hown.out;rw[hkn,List.take_length] at hown';have hsep:(⟨#[32]⟩++ar++⟨#[32]⟩:ByteArray).data.toList=32::(ar.data.toList++[32]):=by simp[ByteArray.data_append]
  have hjn:=fun w1 (x:Ext wr w1)=>joinOwn (w.heap.size+1) v (rs.map refT) (⟨#[32]⟩++ar++⟨#[32]⟩) w1 (own_ext' (by rw[List.length_map];exact hown') x) (by rw[List.length_map];have:=HN.out;omega) (by rw[hsep];have:=HLEN.out;omega)
  rw[hsep,<- HJ.out] at hjn;have hst:∀ w1,Ext wr w1->w1.cell? ⟨b,2,none⟩=some (.string ar)/\w1.cell? ⟨w.heap.size,3,none⟩=some (.slice a A ac):=fun w1 x=>⟨HWC.out _ ((HX.out.trans hx).trans x),(HCL.out _ (hx.trans x)).2.2.2.1⟩
  have HJN:=Lib.hid hjn;have HS:=Lib.hid hst;have HXX:Hid (Ext w wr):=Lib.hid (HX.out.trans hx);have HSB:Hid (wr.heap[w.heap.size]? = some (.cells #[.int .i64 kd,.string nm,.slice r N rc,.slice a A ac,.slice b' C bc] 67 (0,0))):=Lib.hid ((hx.block w.heap.size (by simp)).trans (heap_alloc_new w _));clear hjn hst hown' hown hkn hsep;have a2:=(HS.out _ (Ext.refl _)).1;have e3:=(HS.out _ (Ext.refl _)).2;go_wp2_with fail
  go_region_held3 (fun w'=>w'.cell? ⟨b,2,none⟩=some (.string ar)/\w'.cell? ⟨w.heap.size,3,none⟩=some (.slice a A ac))
    (first | exact⟨a2,e3⟩ | exact HS.out _ x1 | exact HS.out _ (x1.trans x2) | exact HS.out _ ((x1.trans x2).alloc _) | exact f2)
    (first
      | (go_at_call 133;refine(HJN.out _ (Ext.refl _).drew).mono ?_;rintro e w1 ⟨rfl,x1⟩;replace x1:Ext wr w1:=((Ext.refl _).drew).trans x1)
      | (go_at_call 239;refine(HT.out _ (HXX.out.trans x1)).mono ?_;rintro e w2 ⟨rfl,x2⟩)
      | (go_at_call 147;refine(HL.out _ ((HXX.out.trans x1).trans x2)).mono ?_;rintro e w3 ⟨rfl,h3,x3⟩;have f2:w3.cell? ⟨b,2,none⟩=some (.string ar)/\w3.cell? ⟨w.heap.size,3,none⟩=some (.slice a A ac):=(by
          have hb:=x3.blk ((((x1.trans x2).alloc (.cells #[.string J,.string T] 9)).block w.heap.size (Array.getElem?_eq_some_iff.1 HSB.out).1).trans HSB.out) (by have:=HBL.out;omega) (by decide)
          exact⟨h3.cells.1,by rw[Lib.cell_of_heap hb];rfl⟩)))
  go_wp2
  go_end0
  exact⟨rfl,h3,(Kp.of HB.out (((HXX.out.trans x1).trans x2).alloc _)).trans x3⟩
end Go.Proofs.YtjaeedbjknejdaaGreatDoor.Tr

namespace Go.Proofs.YtjaeedbjknejdaaGreatDoor.Tr
open Go.RowKit Go.Sort Go.Lib Go.Shelf Fx Lx
theorem writes_1 (w:World):Calls Tryz.prog 148 #[.int .i64 1] w fun e w'=>e=.returned (.func (.func 197) #[] #[])/\w'=w:=by
  go_enter Tryz.func148,Tryz.ntmps148;go_wp2;go_ret;exact⟨rfl,rfl⟩
theorem writes_2 (w:World):Calls Tryz.prog 148 #[.int .i64 2] w fun e w'=>e=.returned (.func (.func 198) #[] #[])/\w'=w:=by
  go_enter Tryz.func148,Tryz.ntmps148;go_wp2;go_ret;exact⟨rfl,rfl⟩
theorem writes_3 (w:World):Calls Tryz.prog 148 #[.int .i64 3] w fun e w'=>e=.returned (.func (.func 199) #[] #[])/\w'=w:=by
  go_enter Tryz.func148,Tryz.ntmps148;go_wp2;go_ret;exact⟨rfl,rfl⟩
theorem writes_4 (w:World):Calls Tryz.prog 148 #[.int .i64 4] w fun e w'=>e=.returned (.func (.func 200) #[] #[])/\w'=w:=by
  go_enter Tryz.func148,Tryz.ntmps148;go_wp2;go_ret;exact⟨rfl,rfl⟩
theorem writes_5 (w:World):Calls Tryz.prog 148 #[.int .i64 5] w fun e w'=>e=.returned (.func (.func 201) #[] #[])/\w'=w:=by
  go_enter Tryz.func148,Tryz.ntmps148;go_wp2;go_ret;exact⟨rfl,rfl⟩
theorem Wr.lev {B b:Nat}{ar:ByteArray}{lev:Int}{l:List UInt8}{w:World}(h:Wr B b ar lev l w)(q:Int):Wr B b ar q l (w.setCell ⟨b,3,none⟩ (.int .i64 q)):=h.imp (fun h=>h.level q) (fun h=>h.level q)
theorem Kp.lev {B b:Nat}{w:World}(hB:B<=b)(v:Value):Kp B b w (w.setCell ⟨b,3,none⟩ v) :=
  ⟨(Below.refl B w).setCell (p:=⟨b,3,none⟩) hB v,(Lib.OthersKept.refl _ _ w).setCell ⟨b,3,none⟩ rfl v⟩
theorem Wr.le {B b:Nat}{ar:ByteArray}{lev:Int}{l:List UInt8}{w:World}(h:Wr B b ar lev l w):B<=b:=by rcases h with h | h <;> exact h.1
theorem formB_parts (k:Int)(nm:ByteArray)(rs al:List Two)(body:List Stm)(h:formB (.mk k nm rs al body)=true):k=1\/k=2\/k=3\/(k=4/\∃ q,al=[q])\/k=5:=by
  by_cases h1:k=1
  · exact .inl h1
  by_cases h2:k=2
  · exact .inr (.inl h2)
  by_cases h3:k=3
  · exact .inr (.inr (.inl h3))
  by_cases h4:k=4
  · refine .inr (.inr (.inr (.inl ⟨h4,?_⟩)));rw[formB_mk,if_neg h1,if_neg h2,if_neg h3,if_pos h4,Bool.and_eq_true] at h;have hs:=h.2
    match al,hs with
    | [q],_=>exact⟨q,rfl⟩
  by_cases h5:k=5
  · exact .inr (.inr (.inr (.inr h5)))
  rw[formB_mk,if_neg h1,if_neg h2,if_neg h3,if_neg h4,if_neg h5] at h;cases h
def blockT (d:Bool)(lev:Nat)(head:List UInt8)(L:List Stm):List UInt8:=indT lev++(head++[32,123])++[10]++printL d (lev+1) L++indT lev++[125]++[10]
def StmW (B b:Nat)(ar:ByteArray)(d:Bool)(lev:Nat)(l:List UInt8)(F:Nat)(x:Stm)(agg:Value)(w:World):Prop :=
  Calls Tryz.prog F #[.pointer (some ⟨b,0,none⟩),agg] w fun e w'=>e=.returned (.tuple #[])/\Wr B b ar lev (l++printS d lev x) w'/\Kp B b w w'
theorem printL_take (d:Bool)(lev:Nat)(L:List Stm)(k:Nat)(h:k < L.length):printL d lev (L.take (k+1))=printL d lev (L.take k)++printS d lev L[k]:=by
  rw[List.take_succ_eq_append_getElem h,printL_snoc]
theorem printL_app (d:Bool)(lev:Nat):∀ L M:List Stm,printL d lev (L++M)=printL d lev L++printL d lev M
  | [],M=>by rw[printL_nil];rfl
  | x::r,M=>by rw[List.cons_append,printL_cons,printL_cons,printL_app d lev r M,List.append_assoc]
theorem printL_le (d:Bool)(lev:Nat)(L:List Stm)(k:Nat):(printL d lev (L.take k)).length<=(printL d lev L).length:=by
  have h:=printL_app d lev (L.take k) (L.drop k);rw[List.take_append_drop] at h;rw[h,List.length_append];omega
theorem printS_mk (d:Bool)(lev:Nat)(k:Int)(n:ByteArray)(r a:List Two)(bd:List Stm):printS d lev (.mk k n r a bd) =
    if k=1 then indT lev++n.data.toList++tailT a++[10]
    else if k=2 then indT lev++sepT (arrow d) (r.map refT)++tailT a++[10]
    else if k=3 then indT lev++n.data.toList++[32]++listedT a++[59,10]
    else if k=4 then indT lev++[115,101,116,32]++n.data.toList++[32,61,32]++valueT (a.headD (⟨#[]⟩,⟨#[]⟩)).2++[59,10]
    else indT lev++[99,108,117,115,116,101,114,32]++n.data.toList++[32,123,10]++printL d (lev+1) bd++indT lev++[125,10]:=by rw[printS]
theorem ind_len (k:Nat):(indT k).length=4 * k:=by unfold indT;rw[List.length_replicate]
section
variable (B b lev:Nat) (ar:ByteArray) (d:Bool) (l:List UInt8) (nm:ByteArray) (rs al:List Two) (body:List Stm) (r a b':Option Addr) (rc ac bc:Nat) (w:World)
structure WrQ : Prop where
  h:Wr B b ar lev l w
  hB:B<=w.heap.size
  he:Env w
  hr:TwoAt B w r rs
  ha:TwoAt B w a al
  hR:rs.length<=2000000
  hL:al.length<=2000000
  hs:∀ q ∈ al,q.2.size < 4294967281
  har:32::(ar.data.toList++[32])=arrow d
  har2:ar.size<=100
theorem stm_1 (q:WrQ B b lev ar d l rs al r a w)(hlen:l.length+(printS d lev (.mk 1 nm rs al body)).length+300<=140737488355328):
    StmW B b ar d lev l 197 (.mk 1 nm rs al body) (.agg #[.int .i64 1,.string nm,.slice r rs.length rc,.slice a al.length ac,.slice b' body.length bc]) w:=by
  unfold StmW;rw[printS_mk,if_pos rfl] at hlen ⊢;simp only[List.length_append,ind_len,<- size_len,List.length_cons,List.length_nil] at hlen;have h:=node_any B b lev ar l 1 nm rs.length body.length rc ac bc r a b' al w q.h q.hB q.he q.ha.in q.hL q.hs (by omega)
  simpa only[List.append_assoc] using h
theorem stm_2 (q:WrQ B b lev ar d l rs al r a w)(hlen:l.length+(printS d lev (.mk 2 nm rs al body)).length+300<=140737488355328):
    StmW B b ar d lev l 198 (.mk 2 nm rs al body) (.agg #[.int .i64 2,.string nm,.slice r rs.length rc,.slice a al.length ac,.slice b' body.length bc]) w:=by
  unfold StmW;rw[printS_mk,if_neg (by decide),if_pos rfl,<- q.har] at hlen ⊢;simp only[List.length_append,ind_len,List.length_cons,List.length_nil] at hlen;have h:=edge_any B b lev ar l 2 nm body.length rc ac bc r a b' rs al w q.h q.hB q.he q.ha.in q.hr.in q.hL q.hR q.hs q.har2 (by omega)
  simpa only[List.append_assoc] using h
theorem stm_3 (q:WrQ B b lev ar d l rs al r a w)(hlen:l.length+(printS d lev (.mk 3 nm rs al body)).length+300<=140737488355328):
    StmW B b ar d lev l 199 (.mk 3 nm rs al body) (.agg #[.int .i64 3,.string nm,.slice r rs.length rc,.slice a al.length ac,.slice b' body.length bc]) w:=by
  unfold StmW;rw[printS_mk,if_neg (by decide),if_neg (by decide),if_pos rfl] at hlen ⊢;simp only[List.length_append,ind_len,<- size_len,List.length_cons,List.length_nil] at hlen;have h:=defaults_any B b lev ar l 3 nm rs.length body.length rc ac bc r a b' al w q.h q.hB q.he q.ha.in q.hL q.hs (by omega)
  simpa only[List.append_assoc,List.cons_append,List.nil_append] using h
theorem stm_4 (p:Two)(q:WrQ B b lev ar d l rs [p] r a w)(hlen:l.length+(printS d lev (.mk 4 nm rs [p] body)).length+300<=140737488355328):
    StmW B b ar d lev l 200 (.mk 4 nm rs [p] body) (.agg #[.int .i64 4,.string nm,.slice r rs.length rc,.slice a [p].length ac,.slice b' body.length bc]) w:=by
  unfold StmW;rw[printS_mk,if_neg (by decide),if_neg (by decide),if_neg (by decide),if_pos rfl] at hlen ⊢;simp only[List.length_append,ind_len,<- size_len,List.length_cons,List.length_nil,List.headD_cons] at hlen;obtain⟨g,o,rfl,hg,-,h1⟩:=q.ha 0 (by simp);simp only[Nat.zero_mul,Nat.add_zero,List.getElem_cons_zero] at h1;have h:=set_any B b lev ar l 4 nm rs.length body.length rc ac bc g o r b' p.1 p.2 w q.h q.hB q.he hg h1 (q.hs p (by simp)) (by omega)
  simpa only[List.append_assoc,List.cons_append,List.nil_append,List.headD_cons,List.length_cons,List.length_nil] using h
end
end Go.Proofs.YtjaeedbjknejdaaGreatDoor.Tr
