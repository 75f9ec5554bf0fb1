/- Packed texts: FixFmt, FixFormat, FixFormatR, FixFormatS, FixDigits -/
import Derived.Test.YtjaeedbjknejdaaGreatDoorPu01
import Derived.Test.YtjaeedbjknejdaaGreatDoorPu02
import Derived.Lib.Walk
import Derived.Lib.ItoaMem
import Derived.Lib.ItoaLen
import Derived.BigCall
import Derived.BigGuard
set_option linter.unusedVariables false
set_option linter.unusedSimpArgs false
set_option maxHeartbeats 16000000
set_option maxRecDepth 100000
namespace Go.Proofs.YtjaeedbjknejdaaGreatDoor.Fx
open Go.RowKit Go.Sort Go.Lib Go.Shelf
def Pows (w : World) : Prop := Lib.TabIs Tryz.prog w "internal/strconv.uint64pow10" .u64 Lib.pow10Tab
theorem Pows.ext {w w':World}(h:Pows w)(k:Ext w w'):Pows w':=Ext.tab k h
theorem holds_zero0 (w:World)(T:TypeId)(nd:Nat)(hs:nd<=24):Holds (fun(b:UInt8)=>Value.int .u8 (b.toNat:Int)) (w.alloc (.cells zeros24 T)) w.heap.size 0 (Array.replicate nd (0:UInt8)):=fun j hj=>by
  have hj':j < nd:=by simpa using hj
  refine⟨?_,World.frozen?_alloc_new _ _ _ _⟩;rw[World.cell?_alloc_new,zeros24_at _ (by omega),getElem!_pos _ j hj];simp
theorem fin_pos0 (w:World)(o:Obj)(dk:Array UInt8)(k:Nat):Ext w ((putRow (fun(b:UInt8)=>Value.int .u8 (b.toNat:Int)) (w.alloc o) w.heap.size 0 dk).drewN k):=by
  rw[alloc_eq_grow];obtain⟨os',_,e⟩:=putRow_grow_new (fun(b:UInt8)=>Value.int .u8 (b.toNat:Int)) w #[o] w.heap.size 0 dk (Nat.le_refl _);rw[e];exact((Ext.refl _).grow _).drewN _
theorem iformatUint_any (u:Nat)(hu64:u < 18446744073709551616)(w:World)(htab:Pows w):
    Calls Tryz.prog 182 #[.int .u64 u,.int .i64 10] w fun e w'=>e=.returned (.string ⟨(Lib.decDigits u).toArray⟩)/\Ext w w':=by
  by_cases hs:u < 100
  · go_enter Tryz.func182,Tryz.ntmps182;go_wp2_with (go_at_call 229;refine(Tryz.internal_strconv_small u hs _).mono ?_;rintro e w ⟨rfl,rfl⟩);go_ret;exact⟨rfl,Ext.refl _⟩
  have hu1:1<=u:=by omega
  have hnd20:Lib.nDigits u<=20:=Lib.nDigits_le20 u hu64;have hb3:Lib.nDigits u<=24:=by omega
  have hal:Tryz.prog.arrayLen 274=24:=by simp[Program.arrayLen,Tryz.underlying274]
  have hsl1:∀ W,(Instr.sliceAt 274 (.pointer (some ⟨w.heap.size,0,none⟩)) none (some (.int .i64 (Lib.nDigits u:Int))) none).run Tryz.prog W=.ok (.slice (some ⟨w.heap.size,0,none⟩) (Lib.nDigits u) 24) W:=fun W=>by
    rw[run_sliceAt_array_h W 274 ⟨w.heap.size,0,none⟩ (by simp[Program.arrayLen,Program.elem,Tryz.underlying274]) .i64 (Lib.nDigits u:Int) (by omega) (by rw[hal];omega)];go_simp
  have hH0:=holds_zero0 w 274 (Lib.nDigits u) hb3;have hfmt:=Tryz.internal_strconv_formatBase10 w.heap.size 0 24 u (Array.replicate (Lib.nDigits u) 0) (w.alloc (.cells Lib.zeros24 274)) hH0 (by rw[Array.size_replicate];exact Lib.lt_pow_nDigits u) hu64 (by rw[Array.size_replicate];omega);rw[Array.size_replicate] at hfmt;have HH0:=Lib.hid hH0;clear hH0 hal;go_enter Tryz.func182,Tryz.ntmps182;go_wp2_with (go_at_call 230;refine(Tryz.internal_strconv_numDigits u hu1 hu64 _ (Lib.tabIs_alloc htab _)).mono ?_;rintro e w1 ⟨rfl,rfl⟩)
  go_at_call 231
  refine hfmt.mono ?_;rintro e w' ⟨rfl,k,v',dk,rfl,hF⟩
  have hcv:(convert 148 9 (.slice (some ⟨w.heap.size,0,none⟩) (Lib.nDigits u) 24)).run Tryz.prog ((putRow (fun(b:UInt8)=>Value.int .u8 (b.toNat:Int)) (w.alloc (.cells Lib.zeros24 274)) w.heap.size 0 dk).drewN k)=.ok (.string ⟨(Lib.decDigits u).toArray⟩) ((putRow (fun(b:UInt8)=>Value.int .u8 (b.toNat:Int)) (w.alloc (.cells Lib.zeros24 274)) w.heap.size 0 dk).drewN k):=by
    have h:=run_convert_bytes_back (P:=Tryz.prog) ((putRow (fun(b:UInt8)=>Value.int .u8 (b.toNat:Int)) (w.alloc (.cells Lib.zeros24 274)) w.heap.size 0 dk).drewN k) 148 9 5 ⟨w.heap.size,0,none⟩ 24 (Lib.decDigits u) Tryz.underlying148 Tryz.underlying5 Tryz.underlying9 (fun j hj=>by
      rw[Lib.row_is_numeral hF j hj,Lib.add_plain,World.cell?_drewN]
      exact cell?_putRow (fun(b:UInt8)=>Value.int .u8 (b.toNat:Int)) _ w.heap.size 0 _ dk HH0.out (by rw[hF.size,Array.size_replicate]) j (by rw[hF.size];rw[Lib.decDigits_length] at hj;exact hj))
    rw[Lib.decDigits_length] at h;exact h
  go_wp2;go_ret;exact⟨rfl,fin_pos0 w _ dk k⟩
theorem formatUint_any (u:Nat)(hu64:u < 18446744073709551616)(w:World)(htab:Pows w):
    Calls Tryz.prog 128 #[.int .u64 u,.int .i64 10] w fun e w'=>e=.returned (.string ⟨(Lib.decDigits u).toArray⟩)/\Ext w w':=by
  go_enter Tryz.func128,Tryz.ntmps128;go_wp2_with (go_at_call 182;refine(iformatUint_any u hu64 _ htab).mono ?_;rintro e w1 ⟨rfl,hx⟩);go_ret;exact⟨rfl,hx⟩
end Go.Proofs.YtjaeedbjknejdaaGreatDoor.Fx

namespace Go.Proofs.YtjaeedbjknejdaaGreatDoor.Fx
open Go.RowKit Go.Sort Go.Lib Go.Shelf
theorem ab_nat (n:Int):ab n=(n.natAbs:Int):=by unfold ab;split <;> omega
theorem formatUint_int (u:Int)(k:Nat)(D:List UInt8)(hk:u=k)(hu:k < 18446744073709551616)(hD:decDigits k=D)(w:World)(htab:Pows w):
    Calls Tryz.prog 128 #[.int .u64 u,.int .i64 10] w fun e w'=>e=.returned (.string ⟨D.toArray⟩)/\Ext w w':=by
  subst hk;subst hD;exact formatUint_any k hu w htab
theorem decDigits_len4 (r:Nat)(hr:r<=999):(decDigits (1000+r)).length=4:=by
  rw[decDigits_length];exact nDigits_unique 3 _ (by omega) (by omega)
theorem fmt_parts (n:Int)(h0 : -9223372036854775808<=n)(h1:n<=9223372036854775807):∃ (u q r:Nat) (A D:List UInt8),ab n=u/\(u:Int) / 1000=q/\(u:Int) % 1000=r/\r<=999/\u < 18446744073709551616/\q < 18446744073709551616/\(u:Int)<=9223372036854775808 /\
    decDigits q=A/\decDigits (1000+r)=D/\A.length<=20/\D.length=4/\fmt n=(if n < 0 then [45] else [])++(A++if 0 < r then 46::trimRightB (D.drop 1) 48 else []):=by
  refine⟨n.natAbs,n.natAbs / 1000,n.natAbs % 1000,_,_,ab_nat n,by omega,by omega,by omega,by omega,by omega,by omega,rfl,rfl,?_,?_,?_⟩
  · rw[decDigits_length];exact nDigits_le20 _ (by omega)
  · exact decDigits_len4 _ (by omega)
  unfold fmt fmtU fracT;split <;> simp
theorem ret_bytes {b:ByteArray}{l:List UInt8}(h:b.data.toList=l):Ending.returned (.string b)=.returned (.string ⟨l.toArray⟩):=by
  subst h;rfl
theorem trim_any (s:ByteArray)(T:List UInt8)(h:trimRightB s.data.toList 48=T)(hs:s.size<=9223372036854775807)(w:World):
    Calls Tryz.prog 129 #[.string s,.string ⟨#[48]⟩] w fun e w'=>e=.returned (.string ⟨T.toArray⟩)/\w=w':=by
  subst h;refine(Tryz.strings_TrimRight_one s 48 (by decide) w hs).mono ?_;rintro e w' ⟨rfl,rfl⟩;exact⟨rfl,rfl⟩
theorem extract_drop (D:List UInt8)(k:Nat):((⟨D.toArray⟩:ByteArray).extract k D.length).data.toList=D.drop k:=by
  rw[extract_mk];simp[List.take_of_length_le]
theorem extract_size (D:List UInt8)(k n:Nat):((⟨D.toArray⟩:ByteArray).extract k n).size<=D.length:=by
  rw[extract_mk,size_mk];simp;omega
theorem format_any (n:Int)(w:World)(h0 : -9223372036854775808<=n)(h1:n<=9223372036854775807)(ht:Pows w):
    Calls Tryz.prog 63 #[.int .i64 n] w fun e w'=>e=.returned (.string ⟨(fmt n).toArray⟩)/\Ext w w':=by
  obtain⟨u,q,r,A,D,hab,eq,er,hr9,hu64,hq64,q1,hA,hD,hAl,hDl,hf⟩:=fmt_parts n h0 h1;have HAB:=Lib.hid hab;have HA:=Lib.hid hA;have HD:=Lib.hid hD;have HF:=Lib.hid hf;have HU:=Lib.hid hu64;have HQ:=Lib.hid hq64;have HT:=Lib.hid ht;clear hab hA hD hf hu64 hq64 ht;have q0:(0:Int)<=u:=by omega
  have dl1:1<=D.length:=by omega
  have dl2:D.length<=4:=by omega
  have al0:(A.length:Int)<=20:=by omega
  obtain⟨T,hT⟩:∃ T,trimRightB (D.drop 1) 48=T:=⟨_,rfl⟩;rw[hT] at HF
  have hTl:T.length<=4:=by
    subst hT;unfold trimRightB;have:=(List.dropWhile_sublist (· == (48:UInt8)) (l:=(D.drop 1).reverse)).length_le;simp at this ⊢;omega
  have HTT:=Lib.hid hT;clear hT hDl;by_cases hrp:0 < r
  · rw[if_pos hrp] at HF;by_cases hn:n < 0
    all_goals
      first | rw[if_pos hn] at HF | rw[if_neg hn] at HF
      go_enter Tryz.func63,Tryz.ntmps63
      go_wp2_with (first
        | (go_at_call 127;refine(size_any n _ h0 h1).mono ?_;rintro e w' ⟨rfl,rfl⟩;rw[HAB.out])
        | (go_at_call_of 128 (Value.int .u64 (q:Int));refine(formatUint_int _ q A rfl HQ.out HA.out _ HT.out).mono ?_;rintro e w1 ⟨rfl,hx1⟩))
      refine(formatUint_int _ (1000+r) D (by omega) (by omega) HD.out _ (HT.out.ext hx1)).mono ?_;rintro e w2 ⟨rfl,hx2⟩;go_wp2_with fail;refine(trim_any _ T (by rw[extract_drop];exact HTT.out) (by have:=extract_size D 1 D.length;omega) _).mono ?_;rintro e w3 ⟨rfl,rfl⟩;go_wp2;go_ret;exact⟨ret_bytes (by rw[HF.out];simp[ByteArray.data_append]),hx1.trans hx2⟩
  rw[if_neg hrp] at HF;by_cases hn:n < 0
  all_goals
    first | rw[if_pos hn] at HF | rw[if_neg hn] at HF
    go_enter Tryz.func63,Tryz.ntmps63
    go_wp2_with (first
      | (go_at_call 127;refine(size_any n _ h0 h1).mono ?_;rintro e w' ⟨rfl,rfl⟩;rw[HAB.out])
      | (go_at_call_of 128 (Value.int .u64 (q:Int));refine(formatUint_int _ q A rfl HQ.out HA.out _ HT.out).mono ?_;rintro e w1 ⟨rfl,hx1⟩))
    go_ret;exact⟨ret_bytes (by rw[HF.out];simp[ByteArray.data_append]),hx1⟩
end Go.Proofs.YtjaeedbjknejdaaGreatDoor.Fx

namespace Go.Proofs.YtjaeedbjknejdaaGreatDoor.Fx
open Go.RowKit Go.Sort Go.Lib Go.Shelf
theorem dig_fin : ∀ i:Fin 10,((⟨#[48,49,50,51,52,53,54,55,56,57]⟩:ByteArray).extract i.val (i.val+1)).data.toList=[UInt8.ofNat (48+i.val)]:=by decide +kernel
theorem dig_cut (i:Nat)(h:i < 10):((⟨#[48,49,50,51,52,53,54,55,56,57]⟩:ByteArray).extract i (i+1)).data.toList=[UInt8.ofNat (48+i)]:=dig_fin ⟨i,h⟩
theorem data_app (a b:ByteArray):(a++b).data.toList=a.data.toList++b.data.toList:=by simp[ByteArray.data_append]
theorem dig_run (i:Nat)(c:UInt8)(h:i < 10)(hc:UInt8.ofNat (48+i)=c)(W:World):(Instr.slice 9 (.string ⟨#[48,49,50,51,52,53,54,55,56,57]⟩) (some (.int .u64 i)) (some (.int .u64 ((i:Int)+1))) none).run Tryz.prog W=.ok (.string ⟨[c].toArray⟩) W:=by
  subst hc;rw[run_slice_string W _ _ .u64 .u64 i ((i:Int)+1) Tryz.underlying9 (by omega) (by omega) (by show(i:Int)+1<=((10:Nat):Int);omega)];have h1:=dig_cut i h;rw[Int.toNat_natCast,show((i:Int)+1).toNat=i+1 by omega]
  congr 1
  generalize (⟨#[48,49,50,51,52,53,54,55,56,57]⟩:ByteArray).extract i (i+1)=b at h1 ⊢;rw[<-h1]
theorem dec_step (m:Nat)(h:10<=m)(T:List UInt8):decDigits m++T=decDigits (m / 10)++(UInt8.ofNat (48+m % 10)::T):=by
  rw[decDigits,dif_neg (by omega)];simp
theorem nd_le (m:Nat)(h:m < 18446744073709551616):(decDigits m).length<=20:=by rw[decDigits_length];exact nDigits_le20 m h
theorem digitsR_any (u:Nat)(D:List UInt8)(hu:u < 18446744073709551616)(hD:decDigits u=D)(w:World):
    Calls Tryz.prog 145 #[.int .u64 u] w fun e w'=>e=.returned (.string ⟨D.toArray⟩)/\w=w':=by
  have hl:D.length<=20:=by rw[<-hD];exact nd_le u hu
  have HD:=Lib.hid hD;clear hD;have HU:=Lib.hid hu;clear hu;go_enter Tryz.func145,Tryz.ntmps145;go_wp2_with fail
  go_loop [0,3] (fun n s=>∃ (m:Nat) (b:ByteArray),m<=u/\decDigits u=decDigits m++b.data.toList/\n=.int .u64 m/\s=.string b) (fun n _=>(RowKit.intOf n).toNat)
  case atStart=>exact⟨u,⟨#[]⟩,by omega,by simp,rfl,rfl⟩
  obtain⟨m,b,hm,hb,rfl,rfl⟩:=hrel
  have hbl:b.size<=20:=by
    have h:=congrArg List.length hb;rw[HD.out] at h;simp at h;have:b.data.size=b.size:=rfl;omega
  have HB:=Lib.hid hb;clear hb;have hm1:(m:Int)<=18446744073709551615:=by have:=HU.out;omega
  have hm0:(0:Int)<=m:=by omega
  by_cases h9:9 < m
  · obtain⟨d,hd⟩:∃ d:Nat,m % 10=d:=⟨_,rfl⟩;obtain⟨q,hq⟩:∃ q:Nat,m / 10=q:=⟨_,rfl⟩;have ed:(m:Int) % 10=d:=by omega
    have eq:(m:Int) / 10=q:=by omega
    have d9:d < 10:=by omega
    have HS:=Lib.hid (dec_step m (by omega) b.data.toList);rw[hd,hq] at HS;obtain⟨c,hc⟩:∃ c,UInt8.ofNat (48+d)=c:=⟨_,rfl⟩;have hrun:=fun W=>dig_run d c d9 hc W
    rw[hc] at HS;clear hc;have hqm:q<=m:=by omega
    have hqm2:q < m:=by omega
    clear hd hq;go_wp2
    all_goals go_round
    case rel=>exact⟨q,_,by omega,by rw[HB.out,HS.out,data_app];rfl,rfl,rfl⟩
    case measure=>simp[RowKit.intOf];omega
  obtain⟨c,hc⟩:∃ c,UInt8.ofNat (48+m)=c:=⟨_,rfl⟩;have hrun:=fun W=>dig_run m c (by omega) hc W
  have HE:Hid (decDigits m=[c]):=by rw[<-hc];exact decDigits_one (by omega)
  clear hc;go_wp2;go_ret;exact⟨ret_bytes (by rw[data_app,<- HD.out,HB.out,HE.out]),rfl⟩
end Go.Proofs.YtjaeedbjknejdaaGreatDoor.Fx

namespace Go.Proofs.YtjaeedbjknejdaaGreatDoor.Fx
open Go.RowKit Go.Sort Go.Lib Go.Shelf
theorem dec4 (r:Nat)(hr:r<=999):decDigits (1000+r)=[49,UInt8.ofNat (48+r / 100),UInt8.ofNat (48+r / 10 % 10),UInt8.ofNat (48+r % 10)]:=by
  rw[decDigits,dif_neg (by omega),decDigits,dif_neg (by omega),decDigits,dif_neg (by omega),decDigits,dif_pos (by omega)];rw[show(1000+r) / 10 / 10 / 10=1 by omega,show(1000+r) / 10 / 10 % 10=r / 100 by omega,show(1000+r) / 10 % 10=r / 10 % 10 by omega,show(1000+r) % 10=r % 10 by omega]
  rfl
theorem b48 (d:Nat)(hd:d<=9)(h:UInt8.ofNat (48+d)=48):d=0:=by
  have:=congrArg UInt8.toNat h;rw[UInt8.toNat_ofNat'] at this;have e:(48:UInt8).toNat=48:=rfl;rw[e] at this;omega
theorem dropWhile_ne (l:List UInt8)(c x:UInt8)(hx:x ∈ l)(h:x ≠ c):l.dropWhile (· == c) ≠ []:=by
  induction l with
  | nil=>cases hx
  | cons a t ih =>
    rw[List.dropWhile_cons];split
    · rename_i ha;rcases List.mem_cons.1 hx with rfl | hm
      · exact absurd (by simpa using ha) h
      exact ih hm
    · simp
theorem trim_ne (l:List UInt8)(c x:UInt8)(hx:x ∈ l)(h:x ≠ c):1<=(trimRightB l c).length:=by
  unfold trimRightB;have:=dropWhile_ne l.reverse c x (by simpa using hx) h;rw[List.length_reverse];exact List.length_pos_iff.2 this
theorem frac_ne (r:Nat)(hr:r<=999)(h0:0 < r):1<=(trimRightB ((decDigits (1000+r)).drop 1) 48).length:=by
  rw[dec4 r hr];show 1<=(trimRightB [UInt8.ofNat (48+r / 100),UInt8.ofNat (48+r / 10 % 10),UInt8.ofNat (48+r % 10)] 48).length;by_cases h1:r / 100=0
  · by_cases h2:r / 10 % 10=0
    · exact trim_ne _ _ (UInt8.ofNat (48+r % 10)) (by simp) (fun h=>by have:=b48 _ (by omega) h;omega)
    exact trim_ne _ _ (UInt8.ofNat (48+r / 10 % 10)) (by simp) (fun h=>h2 (b48 _ (by omega) h))
  exact trim_ne _ _ (UInt8.ofNat (48+r / 100)) (by simp) (fun h=>h1 (b48 _ (by omega) h))
theorem trim_snoc (l:List UInt8)(x c:UInt8):trimRightB (l++[x]) c=if x=c then trimRightB l c else l++[x]:=by
  unfold trimRightB;rw[List.reverse_append,List.reverse_singleton,List.singleton_append,List.dropWhile_cons];by_cases h:x=c
  · simp[h]
  simp[h]
theorem trim_last (b:ByteArray)(k:Nat)(hk:b.size=k+1)(T:List UInt8)(h:trimRightB b.data.toList 48=T):
    (b[k]=48->trimRightB (b.extract 0 k).data.toList 48=T)/\(b[k] ≠ 48->b.data.toList=T):=by
  have e:b.data.toList=b.data.toList.take k++[b[k]]:=by
    have h1:(b.data.toList).length=k+1:=by simpa using hk
    have h2:=List.take_succ_eq_append_getElem (l:=b.data.toList) (i:=k) (by omega);rw[List.take_of_length_le (by omega)] at h2;exact h2
  have e2:(b.extract 0 k).data.toList=b.data.toList.take k:=by
    rw[extract_upto]
  have e3:trimRightB b.data.toList 48=trimRightB (b.data.toList.take k++[b[k]]) 48:=congrArg (trimRightB · 48) e;rw[e3,trim_snoc] at h;constructor
  · intro hb;rw[if_pos hb] at h;rw[e2];exact h
  intro hb;rw[if_neg hb] at h;rw[e];exact h
theorem digitsR_int (u:Int)(k:Nat)(D:List UInt8)(hk:u=k)(hu:k < 18446744073709551616)(hD:decDigits k=D)(w:World):
    Calls Tryz.prog 145 #[.int .u64 u] w fun e w'=>e=.returned (.string ⟨D.toArray⟩)/\w=w':=by
  subst hk;exact digitsR_any k D hu hD w
theorem formatR_any (n:Int)(w:World)(h0 : -9223372036854775808<=n)(h1:n<=9223372036854775807):
    Calls Tryz.prog 77 #[.int .i64 n] w fun e w'=>e=.returned (.string ⟨(fmt n).toArray⟩)/\w=w':=by
  obtain⟨u,q,r,A,D,hab,eq,er,hr9,hu64,hq64,q1,hA,hD,hAl,hDl,hf⟩:=fmt_parts n h0 h1;have hTp:=frac_ne r hr9;rw[hD] at hTp;have HAB:=Lib.hid hab;have HA:=Lib.hid hA;have HD:=Lib.hid hD;have HF:=Lib.hid hf;have HU:=Lib.hid hu64;have HQ:=Lib.hid hq64;clear hab hA hD hf hu64 hq64;have q0:(0:Int)<=u:=by omega
  have dl1:1<=D.length:=by omega
  have dl2:D.length<=4:=by omega
  have al0:(A.length:Int)<=20:=by omega
  obtain⟨T,hT⟩:∃ T,trimRightB (D.drop 1) 48=T:=⟨_,rfl⟩;rw[hT] at HF hTp;have HTP:=Lib.hid hTp;clear hTp;have HTT:=Lib.hid hT;clear hT hDl;by_cases hrp:0 < r
  · rw[if_pos hrp] at HF;have HT1:=Lib.hid (HTP.out hrp);go_enter Tryz.func77,Tryz.ntmps77
    go_wp2_with (first
      | (go_at_call 144;refine(abs_any n _ h0 h1).mono ?_;rintro e w' ⟨rfl,rfl⟩;rw[HAB.out])
      | (go_at_call_of 145 (Value.int .u64 (q:Int));refine(digitsR_any q A HQ.out HA.out _).mono ?_;rintro e w1 ⟨rfl,rfl⟩))
    refine(digitsR_int _ (1000+r) D (by omega) (by omega) HD.out _).mono ?_;rintro e w2 ⟨rfl,rfl⟩;go_wp2_with fail
    go_loop [6] (fun s=>∃ (b:ByteArray),b.size<=D.length/\trimRightB b.data.toList 48=T/\s=.string b) (fun s=>strSize s)
    case atStart=>exact⟨_,extract_size _ _ _,by rw[extract_drop];exact HTT.out,rfl⟩
    obtain⟨b,hbl,hb,rfl⟩:=hrel
    have hb1:1<=b.size:=by
      rcases Nat.eq_zero_or_pos b.size with h | h
      · have e:b.data.toList=[]:=by apply List.eq_nil_of_length_eq_zero;simpa using h
        rw[e] at hb;subst hb;have:=HT1.out;simp[trimRightB] at this
      exact h
    obtain⟨k,hk⟩:∃ k,b.size=k+1:=⟨b.size - 1,by omega⟩;have HL:=Lib.hid (trim_last b k hk T hb);have HK:=Lib.hid hk;by_cases hc:b[k]=48
    · have ht:((b[k].toNat:Int) == 48)=true:=by rw[hc];rfl
      have HB:=Lib.hid (HL.out.1 hc);clear hc;go_wp2
      go_round
      case rel=>exact⟨_,by rw[extract_upto,size_mk];simp;omega,HB.out,rfl⟩
      case measure=>rw[extract_upto];show(⟨_⟩:ByteArray).size < b.size;rw[size_mk];simp;omega
    have ht:((b[k].toNat:Int) == 48)=false:=by
      rw[beq_eq_false_iff_ne];intro h;exact hc (UInt8.toNat_inj.1 (by have e:(48:UInt8).toNat=48:=rfl;omega))
    have HB:=Lib.hid (HL.out.2 hc);clear hc;by_cases hn:n < 0
    all_goals
      first | rw[if_pos hn] at HF | rw[if_neg hn] at HF
      go_wp2;go_ret;exact⟨ret_bytes (by rw[HF.out];simp only[data_app];rw[HB.out];simp),rfl⟩
  rw[if_neg hrp] at HF;by_cases hn:n < 0
  all_goals
    first | rw[if_pos hn] at HF | rw[if_neg hn] at HF
    go_enter Tryz.func77,Tryz.ntmps77
    go_wp2_with (first
      | (go_at_call 144;refine(abs_any n _ h0 h1).mono ?_;rintro e w' ⟨rfl,rfl⟩;rw[HAB.out])
      | (go_at_call_of 145 (Value.int .u64 (q:Int));refine(digitsR_any q A HQ.out HA.out _).mono ?_;rintro e w1 ⟨rfl,rfl⟩))
    go_ret;exact⟨ret_bytes (by rw[HF.out];simp[ByteArray.data_append]),rfl⟩
end Go.Proofs.YtjaeedbjknejdaaGreatDoor.Fx

namespace Go.Proofs.YtjaeedbjknejdaaGreatDoor.Fx
open Go.RowKit Go.Sort Go.Lib Go.Shelf
theorem ret_bool {a b:Bool}(h:a=b):Ending.returned (.bool a)=.returned (.bool b):=by rw[h]
theorem take_succ_all (s:ByteArray)(k:Nat)(hk:k < s.size)(h:(s.data.toList.take k).all isD=true)(hd:isD s[k]=true):(s.data.toList.take (k+1)).all isD=true:=by
  have h2:=List.take_succ_eq_append_getElem (l:=s.data.toList) (i:=k) (by simpa using hk);rw[h2,List.all_append,h];have e:s.data.toList[k]'(by simpa using hk)=s[k]:=rfl;simp[hd,e]
theorem not_all (s:ByteArray)(k:Nat)(hk:k < s.size)(hd:isD s[k]=false):digs s.data.toList=false:=by
  unfold digs
  have:s.data.toList.all isD=false:=by
    rw[List.all_eq_false];exact⟨s[k],by show s.data.toList[k]'(by simpa using hk) ∈ _;exact List.getElem_mem _,by simp[hd]⟩
  rw[this];rfl
theorem digs_end (s:ByteArray)(h:(s.data.toList.take s.size).all isD=true):digs s.data.toList=decide (0 < s.size):=by
  rw[List.take_of_length_le (by simp)] at h;unfold digs;rw[h,Bool.true_and]
  have:s.data.toList.isEmpty=decide (s.size=0):=by
    cases e:s.data.toList with
    | nil => have : s.size = 0 := by have h := congrArg List.length e; simpa using h
             simp[this]
    | cons a t => have : s.size ≠ 0 := by have h := congrArg List.length e; simp at h; have : s.size = s.data.size := rfl; omega
                  simp[this]
  rw[this];by_cases h0:s.size=0 <;> simp[h0];omega
theorem digits_any (s:ByteArray)(hs:s.size<=9223372036854775807)(w:World):
    Calls Tryz.prog 170 #[.string s] w fun e w'=>e=.returned (.bool (digs s.data.toList))/\w=w':=by
  go_enter Tryz.func170,Tryz.ntmps170;go_wp2_with fail
  go_step3
  go_wp2_with fail
  go_step3
  go_wp2_with fail
  go_loop [3,8] (fun n i=>∃ k:Nat,k<=s.size/\(s.data.toList.take k).all isD=true/\n=.int .i64 k/\i=.int .i64 k) (fun _ i=>s.size - (RowKit.intOf i).toNat)
  case atStart=>exact⟨0,by omega,by simp,rfl,rfl⟩
  obtain⟨k,hk,ha,rfl,rfl⟩:=hrel;have HA:=Lib.hid ha;clear ha;by_cases hlt:k < s.size
  · have HN:=Lib.hid (not_all s k hlt);have HT:=Lib.hid (take_succ_all s k hlt HA.out);have hd:isD s[k]=decide (48<=s[k].toNat/\s[k].toNat<=57):=rfl;have hbl:s[k].toNat<=255:=by have:=s[k].toNat_lt;omega
    by_cases h1:s[k].toNat < 48
    · have HF:=Lib.hid (HN.out (by rw[hd];simp;omega));have t1:(s[k].toNat:Int) < 48:=by omega
      clear hd;go_wp2
      all_goals
        go_ret;exact⟨ret_bool (by have h:=HF.out;first | (rw[h];done) | (rw[h];simp;omega)),rfl⟩
    by_cases h2:57 < s[k].toNat
    · have HF:=Lib.hid (HN.out (by rw[hd];simp;omega));have t1:¬ (s[k].toNat:Int) < 48:=by omega
      have t2:(57:Int) < (s[k].toNat:Int):=by omega
      clear hd;go_wp2
      all_goals
        go_ret;exact⟨ret_bool (by have h:=HF.out;first | (rw[h];done) | (rw[h];simp;omega)),rfl⟩
    have HF:=Lib.hid (HT.out (by rw[hd];simp;omega));have t1:¬ (s[k].toNat:Int) < 48:=by omega
    have t2:¬ (57:Int) < (s[k].toNat:Int):=by omega
    clear hd;go_wp2
    go_round
    case rel=>exact⟨k+1,by omega,HF.out,by go_num,by go_num⟩
    case measure=>simp[RowKit.intOf];omega
  have e:k=s.size:=by omega
  have HF:=Lib.hid (digs_end s (by rw[<-e];exact HA.out));have HE:=Lib.hid e;clear e;go_wp2
  all_goals
    go_ret;exact⟨ret_bool (by rw[HF.out,<- HE.out];simp;omega),rfl⟩
end Go.Proofs.YtjaeedbjknejdaaGreatDoor.Fx
