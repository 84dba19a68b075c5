/- Contracts: strconv.FormatUint at base 10, disk.Name. -/
import Derived.Test.YtlpojfgeocpkeaaGreatDoorShelfJ
import Derived.Test.YtlpojfgeocpkeaaGreatDoorV07
import Derived.Test.YtlpojfgeocpkeaaGreatDoorDAwkJ
import Derived.Lib.ItoaMem
import Derived.Lib.AppendIntMem
namespace Go.Proofs.YtlpojfgeocpkeaaGreatDoor
open Go.RowKit Go.Lib Go.Sort
set_option linter.unusedVariables false
set_option linter.unusedSimpArgs false
def Tab (w:World):Prop:=TabIs Tryz.prog w "internal/strconv.uint64pow10" .u64 pow10Tab
theorem holds_zero0 (w:World)(T:TypeId)(nd:Nat)(hs:nd≤24):Holds (fun (b:UInt8)=>Value.int .u8 (b.toNat:Int)) (w.alloc (.cells zeros24 T)) w.heap.size 0 (Array.replicate nd (0:UInt8)):=fun j hj=>by
 have hj':j<nd:=by simpa using hj
 refine⟨?_,World.frozen?_alloc_new _ _ _ _⟩;rw[World.cell?_alloc_new,zeros24_at _ (by omega),getElem!_pos _ j hj];simp
theorem fin_zero (w:World)(o:Obj)(dk:Array UInt8)(k:Nat):Below w.heap.size w ((putRow (fun (b:UInt8)=>Value.int .u8 (b.toNat:Int)) (w.alloc o) w.heap.size 0 dk).drewN k):=by
 rw[alloc_eq_grow];obtain⟨os',_,e⟩:=putRow_grow_new (fun (b:UInt8)=>Value.int .u8 (b.toNat:Int)) w #[o] w.heap.size 0 dk (Nat.le_refl _);rw[e];exact below_grow _ w (Nat.le_refl _) k os'
set_option maxHeartbeats 6400000 in
set_option maxRecDepth 100000 in
theorem fmtU_any (u:Nat)(hu:u<18446744073709551616)(w:World)(htab:Tab w) :
  Calls Tryz.prog 78 #[.int .u64 u,.int .i64 10] w fun e w'=>e=.returned (.string (bs (decDigits u)))∧Below w.heap.size w w':=by
 by_cases hs:u<100
 ·have hs':(u:Int)<100:=by omega
  go_enter Tryz.func78,Tryz.ntmps78
  go_wp2_with fail
  refine (Tryz.internal_strconv_small u hs _).mono ?_;rintro e w' ⟨rfl,rfl⟩;go_wp2_with fail
  go_ret
  exact⟨rfl,Below.refl _ _⟩
 ·have hs':¬(u:Int)<100:=by omega
  have hu1:1≤u:=by omega
  have hnd20:=nDigits_le hu
  have hal:Tryz.prog.arrayLen 165=24:=by kernel_rfl
  have hsl1:∀W,(Instr.sliceAt 165 (.pointer (some ⟨w.heap.size,0,none⟩)) none (some (.int .i64 (nDigits u:Int))) none).run Tryz.prog W=.ok (.slice (some ⟨w.heap.size,0,none⟩) (nDigits u) 24) W:=fun W=>by
   rw[run_sliceAt_array_h W 165 ⟨w.heap.size,0,none⟩ (by simp[Program.arrayLen,Program.elem,Tryz.underlying165]) .i64 (nDigits u:Int) (by omega) (by rw[hal];omega)];go_simp
  have hH0:=holds_zero0 w 165 (nDigits u) (by omega);have hfmt:=Tryz.internal_strconv_formatBase10 w.heap.size 0 24 u (Array.replicate (nDigits u) 0) (w.alloc (.cells zeros24 165)) hH0 (by rw[Array.size_replicate];exact lt_pow_nDigits u) hu (by rw[Array.size_replicate];omega);rw[Array.size_replicate] at hfmt;have HH0:=Lib.hid hH0;clear hH0 hal
  go_enter Tryz.func78,Tryz.ntmps78
  go_wp2_with fail
  refine (Tryz.internal_strconv_numDigits u hu1 hu _ (tabIs_alloc htab _)).mono ?_;rintro e w' ⟨rfl,rfl⟩;go_wp2_with fail
  refine hfmt.mono ?_;rintro e w' ⟨rfl,k,v',dk,rfl,hF⟩;have hfin:=fin_zero w (.cells zeros24 165) dk k
  have hcv:(convert 81 9 (.slice (some ⟨w.heap.size,0,none⟩) (nDigits u) 24)).run Tryz.prog ((putRow (fun (b:UInt8)=>Value.int .u8 (b.toNat:Int)) (w.alloc (.cells zeros24 165)) w.heap.size 0 dk).drewN k)=.ok (.string ⟨(decDigits u).toArray⟩) ((putRow (fun (b:UInt8)=>Value.int .u8 (b.toNat:Int)) (w.alloc (.cells zeros24 165)) w.heap.size 0 dk).drewN k):=by
   have h:=run_convert_bytes_back (P:=Tryz.prog) ((putRow (fun (b:UInt8)=>Value.int .u8 (b.toNat:Int)) (w.alloc (.cells zeros24 165)) w.heap.size 0 dk).drewN k) 81 9 5 ⟨w.heap.size,0,none⟩ 24 (decDigits u) Tryz.underlying81 Tryz.underlying5 Tryz.underlying9 (fun j hj=>by
    rw[row_is_numeral hF j hj,add_plain,World.cell?_drewN]
    exact cell?_putRow (fun (b:UInt8)=>Value.int .u8 (b.toNat:Int)) _ w.heap.size 0 _ dk HH0.out (by rw[hF.size,Array.size_replicate]) j (by rw[hF.size];rw[decDigits_length] at hj;exact hj))
   rw[decDigits_length] at h;exact h
  generalize (putRow (fun (b:UInt8)=>Value.int .u8 (b.toNat:Int)) (w.alloc (.cells zeros24 165)) w.heap.size 0 dk).drewN k=w5 at *
  replace hfin:=Lib.hid hfin;go_wp2_with fail
  go_ret
  exact⟨rfl,hfin.out⟩
set_option maxRecDepth 100000 in
theorem FormatUint_any (u:Nat)(hu:u<18446744073709551616)(w:World)(htab:Tab w) :
  Calls Tryz.prog 54 #[.int .u64 u,.int .i64 10] w fun e w'=>e=.returned (.string (bs (decDigits u)))∧Below w.heap.size w w':=by
 have hc:=Lib.hid (fmtU_any u hu w htab)
 go_enter Tryz.func54,Tryz.ntmps54
 go_wp2_with fail
 refine hc.out.mono ?_;rintro e w' ⟨rfl,hb⟩;go_wp2_with fail
 go_ret
 exact⟨rfl,hb⟩
theorem repeat_zeros:∀k,repeatL [48] k=List.replicate k 48
 | 0=>rfl
 | k+1=>by rw[repeatL,repeat_zeros k,List.replicate_succ];rfl
set_option maxRecDepth 100000 in
theorem Name_any (word:ByteArray)(u:Nat)(hw:word.size≤1048576)(hu:u<18446744073709551616)(w:World)(htab:Tab w) :
  Calls Tryz.prog 25 #[.string word,.int .u64 u] w fun e w'=>e=.returned (.string (bs (nameL word.data.toList u)))∧Below w.heap.size w w':=by
 have hc:=Lib.hid (FormatUint_any u hu w htab);have hnd:=nDigits_le hu
 have hsz:(bs (decDigits u)).size=nDigits u:=by rw[bs_size,decDigits_length]
 have hmx:max (8-(nDigits u:Int)) 0=((8-nDigits u:Nat):Int):=by omega
 have hrep:=fun (w:World)=>Tryz.strings_Repeat ⟨#[48]⟩ (8-nDigits u) w (by omega) (by show 1*_≤_;omega)
 have hfin:((word++⟨#[46]⟩)++⟨(repeatL (⟨#[48]⟩:ByteArray).data.toList (8-nDigits u)).toArray⟩)++bs (decDigits u)=bs (nameL word.data.toList u):=by
  have e1:(⟨(repeatL (⟨#[48]⟩:ByteArray).data.toList (8-nDigits u)).toArray⟩:ByteArray)=bs (List.replicate (8-nDigits u) 48):=by
   rw[show (⟨#[48]⟩:ByteArray).data.toList=[48] from rfl,repeat_zeros];rfl
  have e2:(⟨#[46]⟩:ByteArray)=bs [46]:=rfl;rw[e1,e2]
  conv=>lhs;rw[←bs_of word]
  rw[bs_append,bs_append,bs_append];unfold nameL pad8;simp[List.append_assoc]
 have hrl:(repeatL [48] (8-nDigits u)).length=8-nDigits u:=by rw[repeat_zeros,List.length_replicate]
 replace hrep:=Lib.hid hrep;replace hfin:=Lib.hid hfin
 go_enter Tryz.func25,Tryz.ntmps25
 go_wp2_with fail
 refine hc.out.mono ?_;rintro e w1 ⟨rfl,hb1⟩;go_wp2_with fail
 refine (hrep.out _).mono ?_;rintro e w2 ⟨rfl,hb2⟩;have hB:=hb1.trans (hb2.mono hb1.size);replace hB:=Lib.hid hB;clear hb1 hb2;go_wp2_with fail
 go_ret
 exact⟨by rw[←hfin.out];rfl,hB.out⟩
end Go.Proofs.YtlpojfgeocpkeaaGreatDoor
