/- Contracts: strconv.FormatUint at base 10, disk.Name. Contracts: disk.Number. Numbers and texts as rows: the plain functions, and what follows of them. No program in sight. Contracts of package num: behind, put, Var. Contracts of package num: Text. Contracts of package num: ReadBig. Contracts of package num: ReadVar. What was written reads back: numbers and texts; sharing; the order of texts. No program in sight. Contracts of package num: Big. strings.Builder in this program: copyCheck and WriteString. (The lines follow the library's own proof of the same contracts, turned to this program's numbers.) Contracts of package okey: Key of numbers. -/
import Derived.Test.YtlpojfgeocpkeaaGreatDoorShelfJ
import Derived.Test.YtlpojfgeocpkeaaGreatDoorX06
import Derived.Test.YtlpojfgeocpkeaaGreatDoorDAwkJ
import Derived.Lib.ItoaMem
import Derived.Lib.AppendIntMem
import Derived.Lib.AtoiErrMem
import Derived.Lib.BitFns
import Derived.Lib.Strings
import Derived.Test.YtlpojfgeocpkeaaGreatDoorX00
import Derived.WalkLawsBesides
import Derived.WalkSpells
import Derived.Outline
import Derived.LoopTactic
import Derived.Lib.Hide
import Derived.Test.YtlpojfgeocpkeaaGreatDoorX01
import Derived.Lib.ConvBytes
import Derived.Laws.Bits64
import Derived.Laws.BitsAll
import Derived.Laws.BitsAllLaws
import Derived.Lib.IndexBytes
namespace Go.Proofs.YtlpojfgeocpkeaaGreatDoor
open Go.RowKit Go.Lib Go.Sort
set_option linter.unusedVariables false
set_option linter.unusedSimpArgs false
def Tab (w:World):Prop:=TabIs Tryz.prog w "internal/strconv.uint64pow10" .u64 pow10Tab
theorem holds_zero0 (w:World)(T:TypeId)(nd:Nat)(hs:nd≤24):Holds (fun (b:UInt8)=>Value.int .u8 (b.toNat:Int)) (w.alloc (.cells zeros24 T)) w.heap.size 0 (Array.replicate nd (0:UInt8)):=fun j hj=>by
 have hj':j<nd:=by simpa using hj
 refine⟨?_,World.frozen?_alloc_new _ _ _ _⟩;rw[World.cell?_alloc_new,zeros24_at _ (by omega),getElem!_pos _ j hj];simp
theorem fin_zero (w:World)(o:Obj)(dk:Array UInt8)(k:Nat):Below w.heap.size w ((putRow (fun (b:UInt8)=>Value.int .u8 (b.toNat:Int)) (w.alloc o) w.heap.size 0 dk).drewN k):=by
 rw[alloc_eq_grow];obtain⟨os',_,e⟩:=putRow_grow_new (fun (b:UInt8)=>Value.int .u8 (b.toNat:Int)) w #[o] w.heap.size 0 dk (Nat.le_refl _);rw[e];exact below_grow _ w (Nat.le_refl _) k os'
set_option maxHeartbeats 6400000 in
set_option maxRecDepth 100000 in
theorem fmtU_any (u:Nat)(hu:u<18446744073709551616)(w:World)(htab:Tab w) :
  Calls Tryz.prog 78 #[.int .u64 u,.int .i64 10] w fun e w'=>e=.returned (.string (bs (decDigits u)))∧Below w.heap.size w w':=by
 by_cases hs:u<100
 ·have hs':(u:Int)<100:=by omega
  go_enter Tryz.func78,Tryz.ntmps78
  go_wp2_with fail
  refine (Tryz.internal_strconv_small u hs _).mono ?_;rintro e w' ⟨rfl,rfl⟩;go_wp2_with fail
  go_ret
  exact⟨rfl,Below.refl _ _⟩
 ·have hs':¬(u:Int)<100:=by omega
  have hu1:1≤u:=by omega
  have hnd20:=nDigits_le hu
  have hal:Tryz.prog.arrayLen 165=24:=by kernel_rfl
  have hsl1:∀W,(Instr.sliceAt 165 (.pointer (some ⟨w.heap.size,0,none⟩)) none (some (.int .i64 (nDigits u:Int))) none).run Tryz.prog W=.ok (.slice (some ⟨w.heap.size,0,none⟩) (nDigits u) 24) W:=fun W=>by
   rw[run_sliceAt_array_h W 165 ⟨w.heap.size,0,none⟩ (by simp[Program.arrayLen,Program.elem,Tryz.underlying165]) .i64 (nDigits u:Int) (by omega) (by rw[hal];omega)];go_simp
  have hH0:=holds_zero0 w 165 (nDigits u) (by omega);have hfmt:=Tryz.internal_strconv_formatBase10 w.heap.size 0 24 u (Array.replicate (nDigits u) 0) (w.alloc (.cells zeros24 165)) hH0 (by rw[Array.size_replicate];exact lt_pow_nDigits u) hu (by rw[Array.size_replicate];omega);rw[Array.size_replicate] at hfmt;have HH0:=Lib.hid hH0;clear hH0 hal
  go_enter Tryz.func78,Tryz.ntmps78
  go_wp2_with fail
  refine (Tryz.internal_strconv_numDigits u hu1 hu _ (tabIs_alloc htab _)).mono ?_;rintro e w' ⟨rfl,rfl⟩;go_wp2_with fail
  refine hfmt.mono ?_;rintro e w' ⟨rfl,k,v',dk,rfl,hF⟩;have hfin:=fin_zero w (.cells zeros24 165) dk k
  have hcv:(convert 81 9 (.slice (some ⟨w.heap.size,0,none⟩) (nDigits u) 24)).run Tryz.prog ((putRow (fun (b:UInt8)=>Value.int .u8 (b.toNat:Int)) (w.alloc (.cells zeros24 165)) w.heap.size 0 dk).drewN k)=.ok (.string ⟨(decDigits u).toArray⟩) ((putRow (fun (b:UInt8)=>Value.int .u8 (b.toNat:Int)) (w.alloc (.cells zeros24 165)) w.heap.size 0 dk).drewN k):=by
   have h:=run_convert_bytes_back (P:=Tryz.prog) ((putRow (fun (b:UInt8)=>Value.int .u8 (b.toNat:Int)) (w.alloc (.cells zeros24 165)) w.heap.size 0 dk).drewN k) 81 9 5 ⟨w.heap.size,0,none⟩ 24 (decDigits u) Tryz.underlying81 Tryz.underlying5 Tryz.underlying9 (fun j hj=>by
    rw[row_is_numeral hF j hj,add_plain,World.cell?_drewN]
    exact cell?_putRow (fun (b:UInt8)=>Value.int .u8 (b.toNat:Int)) _ w.heap.size 0 _ dk HH0.out (by rw[hF.size,Array.size_replicate]) j (by rw[hF.size];rw[decDigits_length] at hj;exact hj))
   rw[decDigits_length] at h;exact h
  generalize (putRow (fun (b:UInt8)=>Value.int .u8 (b.toNat:Int)) (w.alloc (.cells zeros24 165)) w.heap.size 0 dk).drewN k=w5 at *
  replace hfin:=Lib.hid hfin;go_wp2_with fail
  go_ret
  exact⟨rfl,hfin.out⟩
set_option maxRecDepth 100000 in
theorem FormatUint_any (u:Nat)(hu:u<18446744073709551616)(w:World)(htab:Tab w) :
  Calls Tryz.prog 54 #[.int .u64 u,.int .i64 10] w fun e w'=>e=.returned (.string (bs (decDigits u)))∧Below w.heap.size w w':=by
 have hc:=Lib.hid (fmtU_any u hu w htab)
 go_enter Tryz.func54,Tryz.ntmps54
 go_wp2_with fail
 refine hc.out.mono ?_;rintro e w' ⟨rfl,hb⟩;go_wp2_with fail
 go_ret
 exact⟨rfl,hb⟩
theorem repeat_zeros:∀k,repeatL [48] k=List.replicate k 48
 | 0=>rfl
 | k+1=>by rw[repeatL,repeat_zeros k,List.replicate_succ];rfl
set_option maxRecDepth 100000 in
theorem Name_any (word:ByteArray)(u:Nat)(hw:word.size≤1048576)(hu:u<18446744073709551616)(w:World)(htab:Tab w) :
  Calls Tryz.prog 25 #[.string word,.int .u64 u] w fun e w'=>e=.returned (.string (bs (nameL word.data.toList u)))∧Below w.heap.size w w':=by
 have hc:=Lib.hid (FormatUint_any u hu w htab);have hnd:=nDigits_le hu
 have hsz:(bs (decDigits u)).size=nDigits u:=by rw[bs_size,decDigits_length]
 have hmx:max (8-(nDigits u:Int)) 0=((8-nDigits u:Nat):Int):=by omega
 have hrep:=fun (w:World)=>Tryz.strings_Repeat ⟨#[48]⟩ (8-nDigits u) w (by omega) (by show 1*_≤_;omega)
 have hfin:((word++⟨#[46]⟩)++⟨(repeatL (⟨#[48]⟩:ByteArray).data.toList (8-nDigits u)).toArray⟩)++bs (decDigits u)=bs (nameL word.data.toList u):=by
  have e1:(⟨(repeatL (⟨#[48]⟩:ByteArray).data.toList (8-nDigits u)).toArray⟩:ByteArray)=bs (List.replicate (8-nDigits u) 48):=by
   rw[show (⟨#[48]⟩:ByteArray).data.toList=[48] from rfl,repeat_zeros];rfl
  have e2:(⟨#[46]⟩:ByteArray)=bs [46]:=rfl;rw[e1,e2]
  conv=>lhs;rw[←bs_of word]
  rw[bs_append,bs_append,bs_append];unfold nameL pad8;simp[List.append_assoc]
 have hrl:(repeatL [48] (8-nDigits u)).length=8-nDigits u:=by rw[repeat_zeros,List.length_replicate]
 replace hrep:=Lib.hid hrep;replace hfin:=Lib.hid hfin
 go_enter Tryz.func25,Tryz.ntmps25
 go_wp2_with fail
 refine hc.out.mono ?_;rintro e w1 ⟨rfl,hb1⟩;go_wp2_with fail
 refine (hrep.out _).mono ?_;rintro e w2 ⟨rfl,hb2⟩;have hB:=hb1.trans (hb2.mono hb1.size);replace hB:=Lib.hid hB;clear hb1 hb2;go_wp2_with fail
 go_ret
 exact⟨by rw[←hfin.out];rfl,hB.out⟩
theorem g_tab:Tryz.prog.globalNamed "internal/strconv.uint64pow10"=some 0:=by kernel_rfl
theorem var_below {P:Program}{B g:Nat}{w w':World}{n:String}{cs:Array Value}(hg:P.globalNamed n=some g)(h:w.var? P n=some cs)(hb:Below B w w')(hB:g<B):w'.var? P n=some cs:=by
 unfold World.var? at *
 simp only[hg,Option.bind_some] at h ⊢;rw[hb.block g hB];exact h
end Go.Proofs.YtlpojfgeocpkeaaGreatDoor
namespace Go.Proofs.YtlpojfgeocpkeaaGreatDoor
set_option linter.unusedVariables false
set_option linter.unusedSimpArgs false
def bigL (n:Nat):Nat→List UInt8
 | 0=>[]
 | w+1=>UInt8.ofNat (n / 256 ^ w)::bigL n w
def behindN (n:Nat):Nat:=if n<248 then 0 else (Lib.bitLen n+7) / 8
def varL1 (n:Nat):List UInt8:=if 0<behindN n then UInt8.ofNat (247+behindN n)::bigL n (behindN n) else [UInt8.ofNat n]
def varL:List Nat→List UInt8
 | []=>[]
 | n::ns=>varL1 n++varL ns
def textL:List (List UInt8)→List UInt8
 | []=>[]
 | s::ss=>varL1 s.length++s++textL ss
theorem bigL_len (n:Nat):∀w,(bigL n w).length=w
 | 0=>rfl
 | w+1=>by simp[bigL,bigL_len n w]
theorem bitLen_le64 (n:Nat):Lib.bitLen n≤64:=by
 have:∀f x,Lib.bitLenAux f x≤f:=by
  intro f
  induction f with
  | zero=>intro x;simp[Lib.bitLenAux]
  | succ f ih =>
   intro x;have h:=ih (x / 2);unfold Lib.bitLenAux
   split<;>omega
 exact this 64 n
theorem behindN_le (n:Nat):behindN n≤8:=by
 unfold behindN;have:=bitLen_le64 n;split<;>omega
theorem varL1_len (n:Nat):(varL1 n).length≤9:=by
 unfold varL1;have:=behindN_le n;split<;>simp[bigL_len];omega
theorem varL_len:∀ns:List Nat,(varL ns).length≤9*ns.length
 | []=>by simp[varL]
 | n::ns=>by have:=varL1_len n;have:=varL_len ns;simp[varL];omega
theorem varL_append:∀a b:List Nat,varL (a++b)=varL a++varL b
 | [],b=>rfl
 | n::a,b=>by simp[varL,varL_append a b]
theorem varL_snoc (a:List Nat)(n:Nat):varL (a++[n])=varL a++varL1 n:=by rw[varL_append];simp[varL]
theorem byte_of (n:Int)(h0:0≤n)(k:Nat):n / 2 ^ (8*k) % 256=(((UInt8.ofNat (n.toNat / 256 ^ k)).toNat:Nat):Int):=by
 obtain⟨m,rfl⟩:=Int.eq_ofNat_of_zero_le h0
 have e:(256:Nat) ^ k=2 ^ (8*k):=by rw[Nat.pow_mul]
 simp only[Int.toNat_natCast,UInt8.toNat_ofNat',e];rw[Int.natCast_emod,Int.natCast_ediv];simp
theorem byte_of0 (n:Int)(h0:0≤n):n % 256=(((UInt8.ofNat n.toNat).toNat:Nat):Int):=by
 have:=byte_of n h0 0
 simpa using this
def beV (l:List UInt8):Nat:=l.foldl (fun n c=>n*256+c.toNat) 0
theorem beV_snoc (l:List UInt8)(c:UInt8):beV (l++[c])=beV l*256+c.toNat:=by simp[beV]
theorem beV_go (l:List UInt8):∀(n k:Nat),n<256 ^ k→l.foldl (fun n c=>n*256+c.toNat) n<256 ^ (k+l.length):=by
 induction l with
 | nil=>intro n k h;simpa using h
 | cons c l ih =>
  intro n k h;have hc:=c.toNat_lt;have:=ih (n*256+c.toNat) (k+1) (by rw[Nat.pow_succ];omega);rw[List.length_cons,show k+(l.length+1)=k+1+l.length from by omega];exact this
theorem beV_lt (l:List UInt8):beV l<256 ^ l.length:=by
 have:=beV_go l 0 0 (by simp)
 simpa[beV] using this
def readBig (l:List UInt8)(width:Int):Option Nat:=if width<1∨8<width∨(l.length:Int)<width then none else some (beV (l.take width.toNat))
theorem or_byte (x c:Nat)(h:c<256):(x*256) ||| c=x*256+c:=by
 have:=Nat.two_pow_add_eq_or_of_lt (i:=8) (b:=c) (by simpa using h) x;rw[Nat.mul_comm x 256]
 simpa using this.symm
theorem readBig_lt {l:List UInt8}{k:Int}{n:Nat}(h:readBig l k=some n):n<18446744073709551616:=by
 unfold readBig at h
 split at h
 ·cases h
 ·rename_i hk
  injection h with h;subst h;have h1:=beV_lt (l.take k.toNat)
  have h2:(l.take k.toNat).length≤8:=by rw[List.length_take];omega
  have h3:256 ^ (l.take k.toNat).length≤256 ^ 8:=Nat.pow_le_pow_right (by omega) h2;omega
def readVar (l:List UInt8):Option (Nat × Nat):=match l with
 | []=>none
 | c::r=>if c.toNat<248 then some (c.toNat,1) else
  match readBig r (((c.toNat-247:Nat):Nat):Int) with
  | none=>none
  | some n=>if behindN n=c.toNat-247 then some (n,1+(c.toNat-247)) else none
def readText (l:List UInt8)(most:Int):Option (List UInt8 × Nat):=match readVar l with
 | none=>none
 | some (n,k)=>if most<0∨most<n∨l.length-k<n then none else some ((l.drop k).take n,k+n)
end Go.Proofs.YtlpojfgeocpkeaaGreatDoor
namespace Go.Proofs.YtlpojfgeocpkeaaGreatDoor
open Go.RowKit
set_option linter.unusedVariables false
set_option linter.unusedSimpArgs false
set_option maxHeartbeats 400000 in
theorem behind_any (n:Int)(w:World)(h0:0≤n)(h:n≤18446744073709551615) :
  Calls Tryz.prog 164 #[.int .u64 n] w fun e w'=>e=.returned (.int .i64 (behindN n.toNat))∧w=w':=by
 go_enter Tryz.func164,Tryz.ntmps164
 by_cases h1:n<248
 ·go_wp2
  go_ret
  exact⟨by unfold behindN;rw[if_pos (by omega)];rfl,rfl⟩
 ·have hb:=bitLen_le64 n.toNat
  go_wp2_with (go_at_call 157;refine (Tryz.bits_Len64 n _ (by omega) (by omega)).mono ?_;rintro e w' ⟨rfl,rfl⟩)
  go_ret
  exact⟨congrArg (fun x=>Ending.returned (Value.int .i64 x)) (by unfold behindN;rw[if_neg (by omega)];omega),rfl⟩
set_option maxRecDepth 100000 in
set_option maxHeartbeats 1000000 in
theorem put_any (base:Nat)(v:Value)(l:List UInt8)(n:Int)(width:Nat)(w:World)(hn0:0≤n)(hn:n≤18446744073709551615)(hw:width≤8)(hown:OwnB w base v l)(hbase:base≤w.heap.size)(hlen:l.length≤70368744177664) :
  Calls Tryz.prog 177 #[v,.int .u64 n,.int .i64 width] w fun e w'=>∃v',e=.returned v'∧OwnB w' base v' (l++bigL n.toNat width)∧Grew w w' v v':=by
 obtain⟨i0,hi0,hz0,hz1,hz2⟩:=info_parts u8_info
 go_enter Tryz.func177,Tryz.ntmps177
 go_wp2
 go_loopw [0,7] (fun b i wr=>∃(k:Nat) (l':List UInt8),k≤width∧i=.int .i64 ((k:Int)-1)∧OwnB wr base b l'∧l'++bigL n.toNat k=l++bigL n.toNat width∧l'.length+k=l.length+width∧Grew w wr v b) (fun _ i _=>(intOf i+1).toNat)
 case atStart=>exact⟨width,l,Nat.le_refl _,rfl,hown,rfl,rfl,Grew.refl _ _⟩
 case round =>
  obtain⟨k,l',hk,rfl,ho,hl,hll,hg⟩:=hrel
  by_cases hlt:1≤k
  ·obtain⟨k,rfl⟩:∃j,k=j+1:=⟨k-1,by omega⟩;have hX:=byte_of n hn0 k;replace hX:=Lib.hid hX
   go_wp2_with (at_builtin;refine wpList_append_any _ rfl (.tmp 14) (.tmp 20) _ rfl base 5 i0 _ 1 1 Tryz.underlying81 hi0 hz0 hz1 hz2 rfl (by omega) _ l'.length (l'.map B8) rfl (ho.alloc _) (wr.heap.size+1) (some ⟨wr.heap.size,0,none⟩) 1 1 [B8 (UInt8.ofNat (n.toNat / 256 ^ k))] rfl ?c0 ?c1 ?c2 ?c3 ?c4 ?_;rotate_left 5;intro v2 w2 ho2 hg2 hat2)
   case c0=>exact⟨rfl,fun _=>⟨_,rfl,by simp,fun j u hu=>by cases j with | zero=>(simp at hu;subst hu;simp[Addr.add,B8,hX.out]) | succ j=>simp at hu⟩⟩
   case c1=>intro u hu;simp at hu;subst hu;rfl
   case c2=>simp only[maxLen];omega
   case c3=>omega
   case c4=>have:=hg.by_.size;simp;omega
   refine⟨⟨k,l'++[UInt8.ofNat (n.toNat / 256 ^ k)],by omega,rfl,OwnB.of_law ho2,?_,?_,hg.trans ((Grew.of_law hg2 hat2).of_alloc fun k hk=>(ho.lt k hk).2)⟩,by simp[intOf]⟩
   ·have hl':l'++bigL n.toNat (k+1)=l++bigL n.toNat width:=hl
    rw[←hl'];simp[bigL]
   ·have hll':l'.length+(k+1)=l.length+width:=hll
    simp;omega
  ·obtain rfl:k=0:=by omega
   go_wp2
   go_ret
   exact⟨_,rfl,by rw[←hl];simpa[bigL] using ho,hg⟩
def U64 (n:Int):Prop:=0≤n∧n≤18446744073709551615
set_option maxRecDepth 100000 in
set_option maxHeartbeats 2000000 in
theorem Var_any (A:Option Addr)(ns:List Int)(cap:Nat)(w:World)(hr:Reads w w.heap.size 1 A ns.length (ns.map (Value.int .u64)))(hns:∀n∈ns,U64 n)(hlen:ns.length≤4294967296) :
  Calls Tryz.prog 145 #[.slice A ns.length cap] w fun e w'=>e=.returned (.string ⟨(varL (ns.map Int.toNat)).toArray⟩)∧Below w.heap.size w w':=by
 obtain⟨i0,hi0,hz0,hz1,hz2⟩:=info_parts u8_info
 go_enter Tryz.func145,Tryz.ntmps145
 go_wp2
 go_loopw [3,9] (fun b i wr=>∃(k:Nat),k≤ns.length∧i=.int .i64 k∧OwnB wr w.heap.size b (varL ((ns.take k).map Int.toNat))∧Below w.heap.size w wr) (fun _ i _=>ns.length-(intOf i).toNat)
 case atStart=>exact⟨0,Nat.zero_le _,rfl,OwnB.nil _ _,Below.refl _ _⟩
 case round =>
  obtain⟨k,hk,rfl,ho,hb0⟩:=hrel
  by_cases hlt:k<ns.length
  ·obtain⟨ad,v,rfl,hab,hx,hc⟩:=(hr.below hb0).at_ hlt
   obtain⟨n,hn,rfl⟩:∃n,ns[k]? = some n∧v=.int .u64 n:=by
    simp at hx;obtain⟨n,h1,rfl⟩:=hx;exact⟨n,h1,rfl⟩
   obtain⟨n0,n1⟩:=hns n (List.mem_of_getElem? hn);clear hx
   have hll:(varL ((ns.take k).map Int.toNat)).length≤9*k:=by
    have h:=varL_len ((ns.take k).map Int.toNat);rw[List.length_map,List.length_take] at h;omega
   have hz:=hb0.size
   have hsn:varL ((ns.take (k+1)).map Int.toNat)=varL ((ns.take k).map Int.toNat)++varL1 n.toNat:=by
    rw[List.take_succ_eq_append_getElem hlt,List.map_append,List.map_cons,List.map_nil,varL_snoc,show ns[k]=n from by have:=List.getElem?_eq_getElem hlt;rw[this] at hn;simpa using hn]
   replace hn:=Lib.hid hn;replace hsn:=Lib.hid hsn
   generalize hL:varL ((ns.take k).map Int.toNat)=L at *
   replace hL:=Lib.hid hL;go_wp2_with fail
   refine (behind_any n _ n0 n1).mono ?_;rintro e w' ⟨rfl,rfl⟩;have hbh:=behindN_le n.toNat
   by_cases hpos:0<behindN n.toNat
   ·have hV:varL1 n.toNat=[UInt8.ofNat (247+behindN n.toNat)]++bigL n.toNat (behindN n.toNat):=by unfold varL1;rw[if_pos hpos];rfl
    replace hV:=Lib.hid hV
    generalize behindN n.toNat=m at *
    have hc:(247+(m:Int))=(((UInt8.ofNat (247+m)).toNat:Nat):Int):=by simp[UInt8.toNat_ofNat'];omega
    replace hc:=Lib.hid hc
    go_wp2_with (at_builtin;refine wpList_append_any _ rfl (.tmp 17) (.tmp 21) _ rfl (w.heap.size) 5 i0 _ 1 1 Tryz.underlying81 hi0 hz0 hz1 hz2 rfl (by omega) _ (L).length ((L).map B8) rfl (World.ownsRow.alloc ho _) (wr.heap.size+1) (some ⟨wr.heap.size,0,none⟩) 1 1 [B8 (UInt8.ofNat (247+m))] rfl ?c0 ?c1 ?c2 ?c3 ?c4 ?_;rotate_left 5;intro v2 w2 ho2 hg2 hat2;replace ho2:OwnB w2 (w.heap.size) v2 (L++[UInt8.ofNat (247+m)]):=OwnB.of_law ho2;have hG2:=(Grew.of_law hg2 hat2).of_alloc fun k hk=>(OwnB.lt ho k hk).2;clear hg2 hat2)
    case c0=>exact new_byte _ _ _ _ (hc.out)
    case c1=>intro u hu;simp at hu;subst hu;rfl
    case c2=>simp only[maxLen];omega
    case c3=>omega
    case c4=>simp;omega
    have hz2':=hG2.by_.size;refine (put_any w.heap.size _ _ n m _ n0 n1 (by omega) ho2 (by omega) (by simp;omega)).mono ?_;rintro e w3 ⟨v3,rfl,ho3,hG3⟩;go_wp2_with fail
    refine⟨⟨k+1,by omega,by go_num,?_,hb0.trans ((hG2.trans hG3).below hz fun k hk=>(ho.lt k hk).1)⟩,by simp[intOf];omega⟩;rw[hsn.out,hV.out,←List.append_assoc];exact ho3
   ·have hV:varL1 n.toNat=[UInt8.ofNat n.toNat]:=by unfold varL1;rw[if_neg hpos]
    replace hV:=Lib.hid hV
    have hm:behindN n.toNat=0:=by omega
    rw[hm];have hc:=byte_of0 n n0;replace hc:=Lib.hid hc
    go_wp2_with (at_builtin;refine wpList_append_any _ rfl (.tmp 26) (.tmp 29) _ rfl (w.heap.size) 5 i0 _ 1 1 Tryz.underlying81 hi0 hz0 hz1 hz2 rfl (by omega) _ (L).length ((L).map B8) rfl (World.ownsRow.alloc ho _) (wr.heap.size+1) (some ⟨wr.heap.size,0,none⟩) 1 1 [B8 (UInt8.ofNat n.toNat)] rfl ?c0 ?c1 ?c2 ?c3 ?c4 ?_;rotate_left 5;intro v2 w2 ho2 hg2 hat2;replace ho2:OwnB w2 (w.heap.size) v2 (L++[UInt8.ofNat n.toNat]):=OwnB.of_law ho2;have hG2:=(Grew.of_law hg2 hat2).of_alloc fun k hk=>(OwnB.lt ho k hk).2;clear hg2 hat2)
    case c0=>exact new_byte _ _ _ _ (hc.out)
    case c1=>intro u hu;simp at hu;subst hu;rfl
    case c2=>simp only[maxLen];omega
    case c3=>omega
    case c4=>simp;omega
    refine⟨⟨k+1,by omega,by go_num,?_,hb0.trans (hG2.below hz fun k hk=>(ho.lt k hk).1)⟩,by simp[intOf];omega⟩;rw[hsn.out,hV.out];exact ho2
  ·obtain rfl:k=ns.length:=by omega
   have hcv:=ho.text;rw[List.take_length] at hcv;go_wp2_with fail
   go_ret
   exact⟨rfl,hb0⟩
theorem dlen (s:ByteArray):s.data.toList.length=s.size:=(Lib.size_eq s).symm
theorem new_u64 (w:World)(X:Int)(t:TypeId):Reads (w.alloc (.cells #[.int .u64 X] t)) (w.heap.size+1) 1 (some ⟨w.heap.size,0,none⟩) 1 [.int .u64 X]:=by
 refine⟨rfl,fun _=>⟨_,rfl,by simp,fun j u hu=>?_⟩⟩
 cases j with
 | zero =>
  simp at hu;subst hu;simp only[Addr.add,if_true];rw[World.cell?_alloc_new];rfl
 | succ j=>simp at hu
theorem textL_snoc (a:List (List UInt8))(s:List UInt8):textL (a++[s])=textL a++(varL1 s.length++s):=by
 induction a with
 | nil=>simp[textL]
 | cons x a ih=>simp[textL,ih]
theorem textL_take (a:List (List UInt8))(k:Nat):(textL (a.take k)).length≤(textL a).length:=by
 induction a generalizing k with
 | nil=>simp
 | cons x a ih =>
  cases k with
  | zero=>simp[textL]
  | succ k=>have:=ih k;simp[textL];omega
theorem varL_one (n:Nat):varL [n]=varL1 n:=by simp[varL]
set_option maxRecDepth 100000 in
set_option maxHeartbeats 2000000 in
theorem Text_any (A:Option Addr)(ss:List ByteArray)(cap:Nat)(w:World)(hr:Reads w w.heap.size 1 A ss.length (ss.map Value.string))(hlen:ss.length≤4294967296)(hsz:(textL (ss.map fun s=>s.data.toList)).length≤4611686018427387904) :
  Calls Tryz.prog 146 #[.slice A ss.length cap] w fun e w'=>e=.returned (.string (bs (textL (ss.map fun s=>s.data.toList))))∧Below w.heap.size w w':=by
 go_enter Tryz.func146,Tryz.ntmps146
 go_wp2
 go_loopw [3,8] (fun b i wr=>∃(k:Nat),k≤ss.length∧i=.int .i64 k∧b=.string (bs (textL ((ss.take k).map fun s=>s.data.toList)))∧Below w.heap.size w wr) (fun _ i _=>ss.length-(intOf i).toNat)
 case atStart=>exact⟨0,Nat.zero_le _,rfl,rfl,Below.refl _ _⟩
 case round =>
  obtain⟨k,hk,rfl,rfl,hb0⟩:=hrel
  by_cases hlt:k<ss.length
  ·obtain⟨ad,v,rfl,hab,hx,hc⟩:=(hr.below hb0).at_ hlt
   obtain⟨s,hn,rfl⟩:∃n,ss[k]? = some n∧v=.string n:=by
    simp at hx;obtain⟨n,h1,rfl⟩:=hx;exact⟨n,h1,rfl⟩
   clear hx;have hz:=hb0.size
   have hsn:textL ((ss.take (k+1)).map fun s=>s.data.toList)=textL ((ss.take k).map fun s=>s.data.toList)++(varL1 s.size++s.data.toList):=by
    rw[List.take_succ_eq_append_getElem hlt,List.map_append,List.map_cons,List.map_nil,textL_snoc,show ss[k]=s from by have:=List.getElem?_eq_getElem hlt;rw[this] at hn;simpa using hn];rw[dlen s]
   have htk:=textL_take (ss.map fun s=>s.data.toList) (k+1);rw[←List.map_take,hsn] at htk;simp only[List.length_append] at htk;rw[dlen s] at htk;replace hn:=Lib.hid hn;replace hsn:=Lib.hid hsn
   generalize hL:textL ((ss.take k).map fun s=>s.data.toList)=L at *
   replace hL:=Lib.hid hL;have hv1:=varL_one s.size
   have q1:(varL [s.size]).length+s.size≤9223372036854775807:=by rw[hv1];omega
   have q2:(bs L).size+((varL [s.size]).length+s.size)≤9223372036854775807:=by rw[hv1,bs_size];omega
   replace hv1:=Lib.hid hv1
   have hs:s.size≤4611686018427387904:=by omega
   clear htk hsz;go_wp2_with fail
   refine (Var_any _ [(s.size:Int)] _ _ ?_ ?_ (by simp)).mono ?_
   ·simpa using new_u64 wr s.size 34
   ·intro n hn;simp at hn;subst hn;exact⟨by omega,by omega⟩
   rintro e w1 ⟨rfl,hb1⟩;have hb2:=hb1.mono (B':=w.heap.size) (by simp;omega);go_wp2_with fail
   refine⟨⟨k+1,by omega,by go_num,?_,(hb0.alloc hz _).trans hb2⟩,by simp[intOf];omega⟩
   have e:bs L++({ data:=(varL [s.size]).toArray }++s)=bs (textL ((ss.take (k+1)).map fun s=>s.data.toList)):=by
    rw[hsn.out,hv1.out,←bs_append,←bs_append,bs_of];rfl
   exact congrArg Value.string e
  ·obtain rfl:k=ss.length:=by omega
   go_wp2_with fail
   go_ret
   exact⟨by simp,hb0⟩
def outV (o:Option Nat):Value:=.tuple #[.int .u64 ((o.getD 0:Nat):Int),.bool o.isSome]
set_option maxRecDepth 100000 in
set_option maxHeartbeats 2000000 in
theorem ReadBig_any (s:ByteArray)(width:Int)(w:World)(hs:s.size≤maxLen)(h0:-9223372036854775808≤width)(h1:width≤9223372036854775807) :
  Calls Tryz.prog 120 #[.string s,.int .i64 width] w fun e w'=>e=.returned (outV (readBig s.data.toList width))∧Below w.heap.size w w':=by
 unfold maxLen at hs;have hl:=dlen s
 by_cases hbad:width<1∨8<width∨(s.size:Int)<width
 ·have hr:readBig s.data.toList width=none:=by unfold readBig;rw[if_pos (by rw[hl];exact hbad)]
  replace hr:=Lib.hid hr;clear hl
  go_enter Tryz.func120,Tryz.ntmps120
  go_wp2
  all_goals go_ret2
  all_goals exact⟨by rw[hr.out];rfl,Below.refl _ _⟩
 ·have hr:readBig s.data.toList width=some (beV (s.data.toList.take width.toNat)):=by unfold readBig;rw[if_neg (by rw[hl];exact hbad)]
  replace hr:=Lib.hid hr;obtain⟨m,rfl⟩:∃m:Nat,width=m:=⟨width.toNat,by omega⟩
  have hm1:1≤m:=by omega
  have hm8:m≤8:=by omega
  have hms:m≤s.size:=by omega
  clear hbad hl;obtain⟨cap,W2,hrun,hbW,hzW,hcells⟩:=conv_bytes w (s.extract 0 m)
  go_enter Tryz.func120,Tryz.ntmps120
  go_wp2_with fail
  have hsz:(s.extract 0 m).size=m:=by simp;omega
  have hdl:(s.extract 0 m).data.toList=s.data.toList.take m:=by simp
  go_loopw [4,25] (fun v i wr=>∃(k:Nat),k≤m∧i=.int .i64 k∧v=.int .u64 (beV (s.data.toList.take k))∧W2=wr) (fun _ i _=>m-(intOf i).toNat)
  case atStart=>exact⟨0,Nat.zero_le _,rfl,rfl,rfl⟩
  case round =>
   obtain⟨k,hk,rfl,rfl,rfl⟩:=hrel
   by_cases hlt:k<m
   ·have hc:=hcells k (by omega);rw[hdl] at hc
    have hks:k<s.data.toList.length:=by rw[dlen];omega
    have hsn:beV (s.data.toList.take (k+1))=beV (s.data.toList.take k)*256+(s.data.toList[k]).toNat:=by
     rw[List.take_succ_eq_append_getElem hks,beV_snoc]
    have hcc:(s.data.toList.take m).getD k 0=s.data.toList[k]:=by
     rw[List.getD_eq_getElem?_getD,List.getElem?_take_of_lt hlt,List.getElem?_eq_getElem hks];rfl
    rw[hcc] at hc;have hlt2:=beV_lt (s.data.toList.take k);rw[List.length_take,Nat.min_eq_left (by omega)] at hlt2;have hp:256 ^ k≤256 ^ 7:=Nat.pow_le_pow_right (by omega) (by omega)
    have hx:beV (s.data.toList.take k)<72057594037927936:=by omega
    have hy:=(s.data.toList[k]).toNat_lt;clear hp hlt2 hcells hcc;replace hsn:=Lib.hid hsn
    generalize beV (s.data.toList.take k)=x at *
    generalize s.data.toList[k]=c at *
    unfold B8 at hc;clear hsz hdl;go_wp2_with fail
    refine⟨⟨k+1,by omega,by go_num,congrArg (Value.int .u64) ?_,trivial⟩,by simp[intOf];omega⟩;rw[hsn.out,u64_or _ _ (by omega) (by omega) (by omega) (by omega)];rw[show ((x:Int)*256).toNat=x*256 from by omega,show ((c.toNat:Nat):Int).toNat=c.toNat from by omega,or_byte x _ (by omega)]
   ·obtain rfl:k=m:=by omega
    go_wp2_with fail
    go_ret2
    exact⟨by rw[hr.out];rfl,hbW⟩
theorem ReadBig_none (s:ByteArray)(width:Int)(w:World)(hs:s.size≤maxLen)(h0:-9223372036854775808≤width)(h1:width≤9223372036854775807)(h:readBig s.data.toList width=none) :
  Calls Tryz.prog 120 #[.string s,.int .i64 width] w fun e w'=>e=.returned (.tuple #[.int .u64 0,.bool false])∧Below w.heap.size w w':=by
 have:=ReadBig_any s width w hs h0 h1;rw[h] at this;exact this
theorem ReadBig_some (s:ByteArray)(width:Int)(n:Nat)(w:World)(hs:s.size≤maxLen)(h0:-9223372036854775808≤width)(h1:width≤9223372036854775807)(h:readBig s.data.toList width=some n) :
  Calls Tryz.prog 120 #[.string s,.int .i64 width] w fun e w'=>e=.returned (.tuple #[.int .u64 n,.bool true])∧Below w.heap.size w w':=by
 have:=ReadBig_any s width w hs h0 h1;rw[h] at this;exact this
def outVar (o:Option (Nat × Nat)):Value:=.tuple #[.int .u64 (((o.map (·.1)).getD 0:Nat):Int),.int .i64 (((o.map (·.2)).getD 0:Nat):Int),.bool o.isSome]
set_option maxRecDepth 100000 in
set_option maxHeartbeats 2000000 in
theorem ReadVar_any (s:ByteArray)(w:World)(hs:s.size≤maxLen) :
  Calls Tryz.prog 122 #[.string s] w fun e w'=>e=.returned (outVar (readVar s.data.toList))∧Below w.heap.size w w':=by
 unfold maxLen at hs;have hl:=dlen s
 cases hd:s.data.toList with
 | nil =>
  have h1:s.toList.isEmpty=true:=by rw[ByteArray.toList_eq,hd];rfl
  have h2:s.toList=[]:=by rw[ByteArray.toList_eq,hd]
  clear hl
  go_enter Tryz.func122,Tryz.ntmps122
  go_wp2
  go_ret3
  exact⟨rfl,Below.refl _ _⟩
 | cons c r =>
  have h1:s.toList.isEmpty=false:=by rw[ByteArray.toList_eq,hd];rfl
  have h2:¬s.toList=[]:=by rw[ByteArray.toList_eq,hd];simp
  have h3:0<s.size:=by rw[←hl,hd];simp
  have h4:s[0]=c:=by
   have:s.data.toList[0]'(by rw[hd];simp)=c:=by simp[hd]
   rw[←this];rfl
  have h5:(s.extract 1 s.size).data.toList=r:=by rw[Lib.extract_to_end,hd];rfl
  have hc:=c.toNat_lt;replace hd:=Lib.hid hd;clear hl
  by_cases hlo:c.toNat<248
  ·go_enter Tryz.func122,Tryz.ntmps122
   go_wp2_with fail
   go_ret3
   exact⟨by simp[outVar,readVar,hlo],Below.refl _ _⟩
  ·have hk:((c.toNat:Int)-248+1)=((c.toNat-247:Nat):Int):=by omega
   replace hk:=Lib.hid hk
   have hrv:readVar (c::r)=(match readBig r (((c.toNat-247:Nat):Nat):Int) with
    | none=>none
    | some n=>if behindN n=c.toNat-247 then some (n,1+(c.toNat-247)) else none):=by simp only[readVar];rw[if_neg hlo]<;>rfl
   replace hrv:=Lib.hid hrv
   cases hq:readBig r (((c.toNat-247:Nat):Nat):Int) with
   | none =>
    have hx:=ReadBig_none (s.extract 1 s.size) _ w (by unfold maxLen;simp;omega) (by omega) (by omega) (h5.symm ▸ hq);replace hx:=Lib.hid hx;replace hq:=Lib.hid hq
    go_enter Tryz.func122,Tryz.ntmps122
    go_wp2_with fail
    rw[hk.out];refine hx.out.mono ?_;rintro e w1 ⟨rfl,hb⟩;go_wp2_with fail
    go_ret3
    exact⟨by rw[hrv.out,hq.out];rfl,hb⟩
   | some n =>
    have hx:=ReadBig_some (s.extract 1 s.size) _ n w (by unfold maxLen;simp;omega) (by omega) (by omega) (h5.symm ▸ hq);replace hx:=Lib.hid hx;have hn:=readBig_lt hq
    have hn':(n:Int)≤18446744073709551615:=by omega
    clear hn;have hbl:=behindN_le n;replace hq:=Lib.hid hq
    by_cases he:behindN n=c.toNat-247
    ·replace he:=Lib.hid he
     go_enter Tryz.func122,Tryz.ntmps122
     go_wp2_with fail
     rw[hk.out];refine hx.out.mono ?_;rintro e w1 ⟨rfl,hb⟩;go_wp2_with fail
     refine (behind_any n _ (by omega) hn').mono ?_;rintro e w' ⟨rfl,rfl⟩;rw[Int.toNat_natCast,he.out];go_wp2_with fail
     go_ret3
     refine⟨?_,hb⟩;rw[hrv.out,hq.out];simp only[he.out,if_true];simp[outVar]
    ·go_enter Tryz.func122,Tryz.ntmps122
     go_wp2_with fail
     rw[hk.out];refine hx.out.mono ?_;rintro e w1 ⟨rfl,hb⟩;go_wp2_with fail
     refine (behind_any n _ (by omega) hn').mono ?_;rintro e w' ⟨rfl,rfl⟩;rw[Int.toNat_natCast];go_wp2_with fail
     go_ret3
     refine⟨?_,hb⟩;rw[hrv.out,hq.out];simp only[he,if_false];rfl
theorem ext_bs (s:ByteArray)(a b:Nat):s.extract a b=bs ((s.data.toList.drop a).take (b-a)):=by
 apply ByteArray.ext
 apply Array.toList_inj.1
 rw[bs_data];simp[List.take_drop]
theorem readVar_le {l:List UInt8}{n k:Nat}(h:readVar l=some (n,k)):1≤k∧k≤l.length∧n<18446744073709551616:=by
 cases l with
 | nil=>simp[readVar] at h
 | cons c r =>
  have hc:=c.toNat_lt;simp only[readVar] at h
  split at h
  ·simp at h;obtain⟨rfl,rfl⟩:=h
   refine⟨by omega,by simp,by omega⟩
  ·split at h
   ·cases h
   ·rename_i m hm
    split at h
    ·simp at h;obtain⟨rfl,rfl⟩:=h;refine⟨by omega,?_,readBig_lt hm⟩;unfold readBig at hm
     split at hm
     ·cases hm
     ·rename_i hk;simp;omega
    ·cases h
def outText (o:Option (List UInt8 × Nat)):Value:=.tuple #[.string (bs ((o.map (·.1)).getD [])),.int .i64 (((o.map (·.2)).getD 0:Nat):Int),.bool o.isSome]
theorem ReadVar_none (s:ByteArray)(w:World)(hs:s.size≤maxLen)(h:readVar s.data.toList=none) :
  Calls Tryz.prog 122 #[.string s] w fun e w'=>e=.returned (.tuple #[.int .u64 0,.int .i64 0,.bool false])∧Below w.heap.size w w':=by
 have:=ReadVar_any s w hs;rw[h] at this;exact this
theorem ReadVar_some (s:ByteArray)(n k:Nat)(w:World)(hs:s.size≤maxLen)(h:readVar s.data.toList=some (n,k)) :
  Calls Tryz.prog 122 #[.string s] w fun e w'=>e=.returned (.tuple #[.int .u64 n,.int .i64 k,.bool true])∧Below w.heap.size w w':=by
 have:=ReadVar_any s w hs;rw[h] at this;exact this
set_option maxRecDepth 100000 in
set_option maxHeartbeats 2000000 in
theorem ReadText_any (s:ByteArray)(most:Int)(w:World)(hs:s.size≤maxLen)(h0:-9223372036854775808≤most)(h1:most≤9223372036854775807) :
  Calls Tryz.prog 165 #[.string s,.int .i64 most] w fun e w'=>e=.returned (outText (readText s.data.toList most))∧Below w.heap.size w w':=by
 cases hv:readVar s.data.toList with
 | none =>
  have hx:=ReadVar_none s w hs hv;replace hx:=Lib.hid hx
  have hr:readText s.data.toList most=none:=by unfold readText;rw[hv]
  replace hr:=Lib.hid hr;replace hv:=Lib.hid hv;unfold maxLen at hs
  go_enter Tryz.func165,Tryz.ntmps165
  go_wp2_with fail
  refine hx.out.mono ?_;rintro e w1 ⟨rfl,hb⟩;go_wp2_with fail
  go_ret3
  exact⟨by rw[hr.out];rfl,hb⟩
 | some q =>
  obtain⟨n,k⟩:=q;have hx:=ReadVar_some s n k w hs hv;replace hx:=Lib.hid hx;obtain⟨k1,k2,k3⟩:=readVar_le hv;rw[dlen] at k2
  have hn:(n:Int)≤18446744073709551615:=by omega
  clear k3;unfold maxLen at hs
  by_cases hbad:most<0∨most<n∨s.size-k<n
  ·have hr:readText s.data.toList most=none:=by unfold readText;rw[hv];simp only[dlen];rw[if_pos hbad]
   replace hr:=Lib.hid hr;replace hv:=Lib.hid hv
   go_enter Tryz.func165,Tryz.ntmps165
   go_wp2_with fail
   refine hx.out.mono ?_;rintro e w1 ⟨rfl,hb⟩;go_wp2_with fail
   all_goals go_ret3
   all_goals exact⟨by rw[hr.out];rfl,hb⟩
  ·have hr:readText s.data.toList most=some ((s.data.toList.drop k).take n,k+n):=by unfold readText;rw[hv];simp only[dlen];rw[if_neg hbad]
   replace hr:=Lib.hid hr;replace hv:=Lib.hid hv
   have g1:0≤most:=by omega
   have g2:(n:Int)≤most:=by omega
   have g3:k+n≤s.size:=by omega
   clear hbad
   go_enter Tryz.func165,Tryz.ntmps165
   go_wp2_with fail
   refine hx.out.mono ?_;rintro e w1 ⟨rfl,hb⟩;go_wp2_with fail
   go_ret3
   refine⟨?_,hb⟩;rw[hr.out,ext_bs,show k+n-k=n from by omega];simp[outText]
end Go.Proofs.YtlpojfgeocpkeaaGreatDoor
namespace Go.Proofs.YtlpojfgeocpkeaaGreatDoor
set_option linter.unusedVariables false
set_option linter.unusedSimpArgs false
theorem bitLenAux_spec:∀(f n:Nat),0<n→n<2 ^ f→2 ^ (Lib.bitLenAux f n-1)≤n∧n<2 ^ Lib.bitLenAux f n∧1≤Lib.bitLenAux f n
 | 0,n,h,h'=>by simp at h';omega
 | f+1,n,h,h'=>by
  unfold Lib.bitLenAux;split
  ·omega
  ·rename_i hn
   by_cases h2:n / 2=0
   ·have:n=1:=by omega
    subst this
    cases f<;>simp[Lib.bitLenAux]
   ·have ih:=bitLenAux_spec f (n / 2) (by omega) (by rw[Nat.pow_succ] at h';omega);obtain⟨a,b,c⟩:=ih
    generalize Lib.bitLenAux f (n / 2)=m at *
    obtain⟨m,rfl⟩:∃m',m=m'+1:=⟨m-1,by omega⟩;simp only[Nat.add_sub_cancel] at a
    have e1:1+(m+1)-1=m+1:=by omega
    have e2:1+(m+1)=m+1+1:=by omega
    first
     | (rw[e1,e2,Nat.pow_succ 2 m,Nat.pow_succ 2 (m+1)];exact⟨by omega,by omega,by omega⟩)
     | (simp only[Nat.add_sub_cancel];rw[Nat.pow_succ 2 m,Nat.pow_succ 2 (m+1)];exact⟨by omega,by omega,by omega⟩)
theorem behindN_spec (n:Nat)(h:248≤n)(h':n<18446744073709551616):n<256 ^ behindN n∧256 ^ (behindN n-1)≤n:=by
 obtain⟨a,b,c⟩:=bitLenAux_spec 64 n (by omega) (by omega)
 have e:behindN n=(Lib.bitLenAux 64 n+7) / 8:=by unfold behindN;rw[if_neg (by omega)];rfl
 rw[e]
 generalize Lib.bitLenAux 64 n=m at *
 have p:(256:Nat)=2 ^ 8:=by decide
 rw[p,←Nat.pow_mul,←Nat.pow_mul];exact⟨Nat.lt_of_lt_of_le b (Nat.pow_le_pow_right (by omega) (by omega)),Nat.le_trans (Nat.pow_le_pow_right (by omega) (by omega)) a⟩
theorem beV_foldl (l:List UInt8):∀n:Nat,l.foldl (fun n c=>n*256+c.toNat) n=n*256 ^ l.length+beV l:=by
 induction l with
 | nil=>intro n;simp[beV]
 | cons c l ih =>
  intro n;have h1:=ih (n*256+c.toNat);have h2:=ih (0*256+c.toNat);simp only[List.foldl_cons,beV] at h1 h2 ⊢;rw[h1,h2,List.length_cons,Nat.pow_succ];simp only[Nat.add_mul,Nat.zero_mul,Nat.zero_add];rw[Nat.mul_assoc,Nat.mul_comm 256];omega
theorem beV_cons (c:UInt8)(l:List UInt8):beV (c::l)=c.toNat*256 ^ l.length+beV l:=by
 have:=beV_foldl l (0*256+c.toNat);simp only[Nat.zero_mul,Nat.zero_add] at this
 simpa[beV] using this
theorem beV_big (n:Nat):∀w,beV (bigL n w)=n % 256 ^ w
 | 0=>by simp[bigL,beV,Nat.mod_one]
 | w+1=>by
  show beV (UInt8.ofNat (n / 256 ^ w)::bigL n w)=_;have e:256 ^ (w+1)=256 ^ w*256:=Nat.pow_succ ..
  have:(2:Nat) ^ 8=256:=by decide
  rw[beV_cons,beV_big n w,bigL_len,UInt8.toNat_ofNat',this,e,Nat.mod_mul,Nat.mul_comm (n / 256 ^ w % 256)];omega
theorem readVar_var (n:Nat)(h:n<18446744073709551616)(rest:List UInt8):readVar (varL1 n++rest)=some (n,(varL1 n).length):=by
 unfold varL1
 by_cases hlo:n<248
 ·have hb:behindN n=0:=by unfold behindN;rw[if_pos hlo]
  rw[hb,if_neg (by omega)];simp only[List.singleton_append,readVar,UInt8.toNat_ofNat'];rw[if_pos (by omega)];simp;omega
 ·obtain⟨a,b⟩:=behindN_spec n (by omega) h;have h8:=behindN_le n
  have hp:0<behindN n:=by
   rcases Nat.eq_zero_or_pos (behindN n) with h0 | h0
   ·rw[h0] at a;simp at a;omega
   ·exact h0
  rw[if_pos hp]
  have e1:(UInt8.ofNat (247+behindN n)).toNat=247+behindN n:=by rw[UInt8.toNat_ofNat'];omega
  simp only[List.cons_append,readVar,e1];rw[if_neg (by omega),show 247+behindN n-247=behindN n from by omega]
  have hrb:readBig (bigL n (behindN n)++rest) ((behindN n:Nat):Int)=some n:=by
   unfold readBig;rw[if_neg (by rw[List.length_append,bigL_len];omega)];rw[Int.toNat_natCast,List.take_append_of_le_length (by rw[bigL_len];omega),List.take_of_length_le (by rw[bigL_len];omega),beV_big,Nat.mod_eq_of_lt a]
  rw[hrb];simp[bigL_len];omega
theorem readText_text (a:List UInt8)(most:Nat)(h:a.length≤most)(hm:most<4294967296):readText (textL [a]) most=some (a,(textL [a]).length):=by
 unfold readText;simp only[textL,List.append_nil];rw[readVar_var a.length (by omega) a];simp only[];rw[if_neg (by simp;omega)];simp
theorem readText_row (a rest:List UInt8)(most:Nat)(h:a.length≤most)(hm:most<4294967296):readText (varL1 a.length++a++rest) most=some (a,(varL1 a.length).length+a.length):=by
 unfold readText;rw[List.append_assoc,readVar_var a.length (by omega)];simp only[];rw[if_neg (by simp;omega)];simp
theorem readBig_big (n width:Nat)(rest:List UInt8)(h0:1≤width)(h8:width≤8)(h:n<256 ^ width):readBig (bigL n width++rest) width=some n:=by
 unfold readBig;rw[if_neg (by rw[List.length_append,bigL_len];omega)];rw[Int.toNat_natCast,List.take_append_of_le_length (by rw[bigL_len];omega),List.take_of_length_le (by rw[bigL_len];omega),beV_big,Nat.mod_eq_of_lt h]
end Go.Proofs.YtlpojfgeocpkeaaGreatDoor
namespace Go.Proofs.YtlpojfgeocpkeaaGreatDoor
open Go.RowKit
set_option linter.unusedVariables false
set_option linter.unusedSimpArgs false
theorem bitLen_le {n k:Nat}(h:n<2 ^ k):Lib.bitLen n≤k:=by
 have:∀f x k,x<2 ^ k→Lib.bitLenAux f x≤k:=by
  intro f
  induction f with
  | zero=>intro x k _;simp[Lib.bitLenAux]
  | succ f ih =>
   intro x k hx;unfold Lib.bitLenAux;split
   ·omega
   ·cases k with
    | zero=>simp at hx;omega
    | succ k =>
     have:=ih (x / 2) k (by rw[Nat.pow_succ] at hx;omega);omega
 exact this 64 n k h
set_option maxRecDepth 100000 in
set_option maxHeartbeats 1000000 in
theorem Big_any (n width:Nat)(w:World)(hw0:1≤width)(hw:width≤8)(hn:n<256 ^ width) :
  Calls Tryz.prog 141 #[.int .u64 (n:Nat),.int .i64 (width:Nat)] w fun e w'=>e=.returned (.tuple #[.string (bs (bigL n width)),.int .i64 0])∧Below w.heap.size w w':=by
 have h256:256 ^ width≤256 ^ 8:=Nat.pow_le_pow_right (by omega) hw
 have hn64:n≤18446744073709551615:=by
  have:(256:Nat) ^ 8=18446744073709551616:=by decide
  omega
 have hbl:Lib.bitLen n≤8*width:=bitLen_le (by
  rw[Nat.pow_mul]
  exact hn)
 have hn64':(n:Int)≤18446744073709551615:=by omega
 have hlen:=Tryz.bits_Len64 (n:Int) w (by omega) hn64';have hput:=put_any w.heap.size (.slice none 0 0) [] (n:Int) width w (by omega) hn64' hw (OwnB.nil _ _) (Nat.le_refl _) (by simp);simp only[Int.toNat_natCast] at hlen hput
 have hbl':¬((8:Int)*width<(Lib.bitLen n:Nat)):=by omega
 replace hlen:=Lib.hid hlen;replace hput:=Lib.hid hput
 generalize hbn:Lib.bitLen n=bn at *
 clear h256 hn64 hn64' hbl hn hbn
 go_enter Tryz.func141,Tryz.ntmps141
 go_wp2_with fail
 refine hlen.out.mono ?_;rintro e w' ⟨rfl,rfl⟩;go_wp2_with fail
 refine hput.out.mono ?_;rintro e w2 ⟨v',rfl,ho,hg⟩;have ht:=ho.text;have hb:=hg.below (B:=w'.heap.size) (Nat.le_refl _) (fun k e=>by cases e);replace hb:=Lib.hid hb;clear hg ho;go_wp2_with fail
 go_ret2
 exact⟨by simp[bs],hb.out⟩
def bigX (n:Nat):List UInt8:=if n<4294967296 then bigL n 4 else []
theorem bigX_of {n:Nat}(h:n<4294967296):bigX n=bigL n 4:=if_pos h
theorem bigX_le (n:Nat):(bigX n).length≤4:=by
 unfold bigX;split
 ·rw[bigL_len];exact Nat.le_refl _
 ·simp
set_option maxRecDepth 100000 in
set_option maxHeartbeats 1000000 in
theorem Big_over (n:Nat)(w:World)(h0:4294967296≤n)(hn:n<18446744073709551616) :
  Calls Tryz.prog 141 #[.int .u64 (n:Nat),.int .i64 4] w fun e w'=>e=.returned (.tuple #[.string ⟨#[]⟩,.int .i64 3])∧Below w.heap.size w w':=by
 have hbl:32<Lib.bitLen n:=by
  obtain⟨a,b,c⟩:=bitLenAux_spec 64 n (by omega) hn;have e:Lib.bitLen n=Lib.bitLenAux 64 n:=rfl;rw[e];rcases Nat.lt_or_ge 32 (Lib.bitLenAux 64 n) with h | h
  ·exact h
  ·have:=Nat.pow_le_pow_right (n:=2) (by omega) h
   have:(2:Nat) ^ 32=4294967296:=by decide
   omega
 have hlen:=Tryz.bits_Len64 (n:Int) w (by omega) (by omega);simp only[Int.toNat_natCast] at hlen
 have hbl':((32:Int)<(Lib.bitLen n:Nat)):=by omega
 replace hlen:=Lib.hid hlen
 generalize Lib.bitLen n=bn at *
 clear hbl h0
 have hn':(n:Int)<18446744073709551616:=by omega
 clear hn
 go_enter Tryz.func141,Tryz.ntmps141
 go_wp2_with fail
 refine hlen.out.mono ?_;rintro e w' ⟨rfl,rfl⟩;go_wp2_with fail
 go_ret2
 exact⟨rfl,Below.refl _ _⟩
def bigE (n:Nat):Nat:=if n<4294967296 then 0 else 3
theorem Big_x (n:Nat)(w:World)(hn:n<18446744073709551616) :
  Calls Tryz.prog 141 #[.int .u64 (n:Nat),.int .i64 4] w fun e w'=>e=.returned (.tuple #[.string (bs (bigX n)),.int .i64 (bigE n:Nat)])∧Below w.heap.size w w':=by
 by_cases h:n<4294967296
 ·have:=Big_any n 4 w (by decide) (by decide) h;unfold bigX bigE;rw[if_pos h,if_pos h];exact this
 ·have:=Big_over n w (by omega) hn;unfold bigX bigE;rw[if_neg h,if_neg h];exact this
theorem sizeB:∃j,Tryz.prog.info? 128=some j∧j.size=2:=by
 obtain⟨j,hj,hs⟩:=Option.map_eq_some_iff.1 (show (Tryz.prog.info? 128).map (·.size)=some 2 by kernel_rfl);exact⟨j,hj,hs⟩
set_option maxHeartbeats 1000000 in
set_option maxRecDepth 100000 in
theorem copyCheck_used (b:Nat)(w:World)(h0:w.cell? ⟨b,0,none⟩=some (.pointer (some ⟨b,0,none⟩))) :
  Calls Tryz.prog 118 #[.pointer (some ⟨b,0,none⟩)] w fun e w'=>e=.returned (.tuple #[])∧w'=w:=by
 obtain⟨j,hj,_⟩:=sizeB
 go_enter Tryz.func118,Tryz.ntmps118
 go_wp2
 rw[Lib.run_neq_ptr_same w _ Tryz.underlying126 hj]
 go_wp2
 go_end0
 exact⟨rfl,rfl⟩
set_option maxHeartbeats 1000000 in
set_option maxRecDepth 100000 in
theorem copyCheck_fresh (b:Nat)(w:World)(h0:w.cell? ⟨b,0,none⟩=some (.pointer none))(hsh:w.shape? b=some (128,2))(hfz:w.frozen? ⟨b,0,none⟩=false) :
  Calls Tryz.prog 118 #[.pointer (some ⟨b,0,none⟩)] w fun e w'=>e=.returned (.tuple #[])∧w'=w.setCell ⟨b,0,none⟩ (.pointer (some ⟨b,0,none⟩)):=by
 obtain⟨j,hj,hjs⟩:=sizeB
 go_enter Tryz.func118,Tryz.ntmps118
 go_wp2
 rw[Lib.run_to_unsafe w ⟨b,0,none⟩ Tryz.underlying126 Tryz.underlying219 hj (by rw[hjs];decide) hsh (Nat.zero_lt_succ 1)];simp only[Result.andThen];rw[Oper.upon_value]
 go_wp2
 rw[run_callFunc_extern Tryz.func162 (by kernel_rfl) (by kernel_rfl) (by kernel_rfl) (e:=Extern.AbiNoEscape.same) (by kernel_rfl)];rw[Lib.run_noEscape];simp only[Result.andThen];rw[Oper.upon_value]
 go_wp2
 rw[Lib.run_from_unsafe w ⟨b,0,none⟩ Tryz.underlying219 Tryz.underlying126 hj hsh (by kernel_rfl)];simp only[Result.andThen];rw[Oper.upon_value]
 go_wp2
 go_end0
 exact⟨rfl,rfl⟩
theorem copyCheck_any (B b:Nat)(bs:List Value)(w:World)(h:Lib.IsBuilder 128 5 B b bs w) :
  Calls Tryz.prog 118 #[.pointer (some ⟨b,0,none⟩)] w fun e w'=>e=.returned (.tuple #[])∧(Lib.BuilderAt 128 5 B b (.pointer (some ⟨b,0,none⟩)) bs w'∧Below B w w'):=by
 rcases h with h | h
 ·refine (copyCheck_fresh b w h.cell0 h.shape h.frozen0).mono ?_;rintro e w' ⟨rfl,rfl⟩;exact⟨rfl,h.used _,(Below.refl B w).setCell (p:=⟨b,0,none⟩) h.1 _⟩
 ·refine (copyCheck_used b w h.cell0).mono ?_;rintro e w' ⟨rfl,rfl⟩;exact⟨rfl,h,Below.refl B _⟩
set_option maxHeartbeats 2000000 in
set_option maxRecDepth 100000 in
theorem WriteString_any (B b:Nat)(bs:List Value)(s:ByteArray)(w:World)(h:Lib.IsBuilder 128 5 B b bs w)(hlen:bs.length+s.size≤140737488355328)(hBw:B≤w.heap.size) :
  Calls Tryz.prog 82 #[.pointer (some ⟨b,0,none⟩),.string s] w fun e w'=>e=.returned (.tuple #[.int .i64 s.size,.nilIface])∧(Lib.BuilderAt 128 5 B b (.pointer (some ⟨b,0,none⟩)) (bs++Lib.strCells s) w'∧Below B w w'):=by
 obtain⟨i0,hi,hz0,hz1,hz2⟩:=info_parts u8_info
 go_enter Tryz.func82,Tryz.ntmps82
 go_wp2_with (go_at_call 118;refine (copyCheck_any B b bs _ h).mono ?_)
 rintro e w1 ⟨rfl,h1,hb1⟩;obtain⟨hB,v,hbk,hown,hne⟩:=h1
 have c0:w1.cell? ⟨b,0,none⟩=some (.pointer (some ⟨b,0,none⟩)):=by rw[Lib.cell_of_heap hbk];rfl
 have c1:w1.cell? ⟨b,1,none⟩=some v:=by rw[Lib.cell_of_heap hbk];rfl
 go_wp2_with (at_builtin;refine Lib.wpList_append_own_string _ rfl _ _ 81 9 rfl B 5 i0 Tryz.underlying81 Tryz.underlying9 hi hz0 hz1 hz2 _ _ _ rfl hown s rfl ?c3 ?c4 ?c5 ?_)
 case c3=>unfold maxLen;omega
 case c4=>omega
 case c5=>have:=hb1.size;omega
 intro v' w2 hown' hgrow _
 have hlt:b<w1.heap.size:=by
  rcases Nat.lt_or_ge b w1.heap.size with h' | h'
  ·exact h'
  ·simp[Array.getElem?_eq_none h'] at hbk
 have hb2:w2.heap[b]? = some (.cells #[.pointer (some ⟨b,0,none⟩),v] 128 (0,0)):=by
  rw[hgrow.block b hlt (fun e=>hne e.symm)];exact hbk
 have d0:w2.cell? ⟨b,0,none⟩=some (.pointer (some ⟨b,0,none⟩)):=by rw[Lib.cell_of_heap hb2];rfl
 have d1:w2.cell? ⟨b,1,none⟩=some v:=by rw[Lib.cell_of_heap hb2];rfl
 have f1:w2.frozen? ⟨b,1,none⟩=false:=Lib.frozen_of_heap hb2 1
 obtain⟨ao,n',cap,rfl⟩:∃ao n' cap,v'=.slice ao n' cap:=by
  rcases hown'.2 with⟨hv,_⟩ | ⟨g,cap,cur,hv,_⟩
  ·exact⟨_,_,_,hv⟩
  ·exact⟨_,_,_,hv⟩
 go_wp2
 go_ret2
 refine⟨rfl,?_,?_⟩
 ·exact Lib.BuilderAt.put (T:=128) (e:=5) hB hb2 (bs':=bs++Lib.strCells s) (by simpa[Lib.strCells_length] using hown') (by decide)
 ·exact (hb1.grown hgrow (by have:=hb1.size;omega) (fun k hk=>(hown.lt k hk).1)).setCell (p:=⟨b,1,none⟩) hB _
theorem own_below {w w':World}{B:Nat}{e:TypeId}{v:Value}{n:Nat}{xs:List Value}(h:w.ownsRow B e 1 v n xs)(hb:Below w.heap.size w w'):w'.ownsRow B e 1 v n xs:=by
 refine⟨h.1,h.2.imp id ?_⟩;rintro ⟨g,cap,cur,hv,h1,hg,rest⟩;refine⟨g,cap,cur,hv,h1,?_,rest⟩
 rw[hb.block g (by
  rcases Nat.lt_or_ge g w.heap.size with h' | h'
  ·exact h'
  ·rw[Array.getElem?_eq_none h'] at hg;cases hg)]
 exact hg
def IsB (B b:Nat)(l:List UInt8)(w:World):Prop:=Lib.IsBuilder 128 5 B b (Lib.byteCells l) w
theorem at_below {w w':World}{B b:Nat}{p:Value}{xs:List Value}(h:Lib.BuilderAt 128 5 B b p xs w)(hb:Below w.heap.size w w'):Lib.BuilderAt 128 5 B b p xs w':=by
 have hlt:=h.lt;obtain⟨hB,v,hbk,hown,hne⟩:=h;exact⟨hB,v,(hb.block b hlt).trans hbk,own_below hown hb,hne⟩
theorem IsB.below {w w':World}{B b:Nat}{l:List UInt8}(h:IsB B b l w)(hb:Below w.heap.size w w'):IsB B b l w':=h.imp (fun h=>at_below h hb) (fun h=>at_below h hb)
theorem IsB.new (w:World):IsB w.heap.size w.heap.size [] (w.alloc (.cells #[.pointer none,.slice none 0 0] 128)) :=
 .inl ⟨Nat.le_refl _,_,heap_alloc_new w _,World.ownsRow_nil _ _ _ 1,by simp[Value.ownBlock]⟩
theorem IsB.lt {w:World}{B b:Nat}{l:List UInt8}(h:IsB B b l w):b<w.heap.size:=h.elim (·.lt) (·.lt)
theorem write_any (B b:Nat)(l:List UInt8)(s:ByteArray)(w:World)(h:IsB B b l w)(hlen:l.length+s.size≤140737488355328)(hBw:B≤w.heap.size) :
  Calls Tryz.prog 82 #[.pointer (some ⟨b,0,none⟩),.string s] w fun e w'=>e=.returned (.tuple #[.int .i64 s.size,.nilIface])∧(IsB B b (l++s.data.toList) w'∧Below B w w'):=by
 refine (WriteString_any B b _ s w h (by rw[Lib.byteCells_length];exact hlen) hBw).mono ?_;rintro e w' ⟨he,h1,hb⟩;refine⟨he,.inr ?_,hb⟩;rw[Lib.byteCells_append];exact h1
theorem Var_one (b:Nat)(n:Int)(w:World)(hb:b<w.heap.size)(hc:w.cell? ⟨b,0,none⟩=some (.int .u64 n))(h0:0≤n)(h1:n≤18446744073709551615) :
  Calls Tryz.prog 145 #[.slice (some ⟨b,0,none⟩) 1 1] w fun e w'=>e=.returned (.string (bs (varL1 n.toNat)))∧Below w.heap.size w w':=by
 have h:=Var_any (some ⟨b,0,none⟩) [n] 1 w ⟨rfl,fun _=>⟨_,rfl,hb,fun j u hu=>by
  cases j with
  | zero =>
   simp at hu;subst hu;exact hc
  | succ j=>simp at hu⟩⟩ (fun m hm=>by simp at hm;subst hm;exact⟨h0,h1⟩) (by simp)
 simpa[varL_one,bs] using h
end Go.Proofs.YtlpojfgeocpkeaaGreatDoor
