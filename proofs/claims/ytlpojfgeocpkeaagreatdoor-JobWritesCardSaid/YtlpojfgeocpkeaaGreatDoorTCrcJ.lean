/- Contracts: cell.Crc. -/
import Derived.Test.YtlpojfgeocpkeaaGreatDoorX08
import Derived.Test.YtlpojfgeocpkeaaGreatDoorX01
import Derived.Laws.BitsAllLaws
namespace Go.Proofs.YtlpojfgeocpkeaaGreatDoor
open Go.RowKit
set_option linter.unusedVariables false
set_option linter.unusedSimpArgs false
def crcTab:List Nat:=[0,498536548,997073096,651767980,1994146192,1802195444,1303535960,1342533948,3988292384,4027552580,3604390888,3412177804,2607071920,2262029012,2685067896,3183342108]
def crcT (i:Nat):Nat:=crcTab.getD i 0
def crcNib (s:Nat):Nat:=s / 16 ^^^ crcT (s % 16)
def crcByte (s:Nat)(c:UInt8):Nat:=crcNib (crcNib (s ^^^ c.toNat))
def crcSum (l:List UInt8):Nat:=l.foldl crcByte 4294967295
def crcL (l:List UInt8):Nat:=4294967295 ^^^ crcSum l
theorem crcT_lt (i:Nat):crcT i<4294967296:=by
 unfold crcT
 by_cases h:i<16
 ·have:∀j:Fin 16,crcTab.getD j.val 0<4294967296:=by decide
  exact this ⟨i,h⟩
 ·rw[List.getD_eq_getElem?_getD,List.getElem?_eq_none (by simp[crcTab];omega)]
  decide
theorem xor_lt {a b:Nat}(ha:a<4294967296)(hb:b<4294967296):a ^^^ b<4294967296:=Nat.xor_lt_two_pow (n:=32) ha hb
theorem crcNib_lt {s:Nat}(h:s<4294967296):crcNib s<4294967296:=xor_lt (by omega) (crcT_lt _)
theorem crcByte_lt {s:Nat}(h:s<4294967296)(c:UInt8):crcByte s c<4294967296:=crcNib_lt (crcNib_lt (xor_lt h (by have:=c.toNat_lt;omega)))
theorem crcFold_lt (l:List UInt8):∀ {s:Nat},s<4294967296→l.foldl crcByte s<4294967296:=by
 induction l with
 | nil=>exact fun h=>h
 | cons c l ih=>exact fun h=>ih (crcByte_lt h c)
theorem crcL_lt (l:List UInt8):crcL l<4294967296:=xor_lt (by decide) (crcFold_lt l (by decide))
def TabAt (w:World):Prop:=∀i,i<16→w.cell? ⟨1,i,none⟩=some (.int .u32 (crcT i:Nat))
theorem cell_lt {w:World}{a:Addr}{v:Value}(h:w.cell? a=some v):a.block<w.heap.size:=by
 rcases Nat.lt_or_ge a.block w.heap.size with h' | h'
 ·exact h'
 ·unfold World.cell? at h;rw[Array.getElem?_eq_none h'] at h;cases h
theorem TabAt.pos {w:World}(h:TabAt w):1<w.heap.size:=cell_lt (h 0 (by decide))
theorem plain_cell {w:World}{a:Addr}{v:Value}(h:w.cell? (a.add 0)=some v):∃b o,a=⟨b,o,none⟩:=by
 obtain⟨b,o,s⟩:=a
 cases s with
 | none=>exact⟨b,o,rfl⟩
 | some f =>
  exfalso
  unfold Addr.add World.cell? at h
  split at h<;>(try split at h)<;>simp_all
theorem TabAt.below {w w':World}{B:Nat}(h:TabAt w)(hb:Below B w w')(hB:1<B):TabAt w':=fun i hi=>(hb.cell (p:=⟨1,i,none⟩) hB).trans (h i hi)
set_option maxRecDepth 100000 in
set_option maxHeartbeats 4000000 in
theorem Crc_any {w:World}(hT:TabAt w)(A:Option Addr)(ss:List ByteArray)(cap:Nat)(hr:Reads w w.heap.size 1 A ss.length (ss.map Value.string))(hlen:ss.length≤4294967296)(hs:∀s∈ss,s.size≤1099511627776) :
  Calls Tryz.prog 129 #[.slice A ss.length cap] w fun e w'=>e=.returned (.int .u32 (crcL (ss.flatMap fun s=>s.data.toList):Nat))∧Below w.heap.size w w':=by
 have hT':=Lib.hid hT;replace hr:=Lib.hid hr;replace hs:=Lib.hid hs;clear hT
 go_enter Tryz.func129,Tryz.ntmps129
 go_wp2_with fail
 go_loopw [3,10] (fun sv iv wr=>∃i:Nat,i≤ss.length∧iv=.int .i64 i∧sv=.int .u32 (crcSum ((ss.take i).flatMap fun s=>s.data.toList):Nat)∧Below w.heap.size w wr) (fun _ iv _=>ss.length-(intOf iv).toNat)
 case atStart=>exact⟨0,Nat.zero_le _,rfl,rfl,Below.refl _ _⟩
 case round =>
  obtain⟨i,hi,rfl,rfl,hbr⟩:=hrel
  by_cases hlt:i<ss.length
  ·have hlt':(i:Int)<ss.length:=by omega
   have hsi:ss[i]? = some ss[i]:=List.getElem?_eq_getElem hlt;have hsz:=hs.out _ (List.getElem_mem hlt);obtain⟨ad,u,rfl,hadB,hu,hcell⟩:=hr.out.at_ hlt;rw[List.getElem?_map,hsi] at hu;injection hu with hu;subst hu
   generalize ss[i]=s at *
   obtain⟨ad0,u0,e0,_,_,hc0⟩:=hr.out.at_ (k:=0) (by omega);injection e0 with e0;subst e0;obtain⟨bb,oo,rfl⟩:=plain_cell hc0;clear hc0
   have hc1:w.cell? ⟨bb,oo+i,none⟩=some (.string s):=by
    rw[show (⟨bb,oo+i,none⟩:Addr)=(⟨bb,oo,none⟩:Addr).add i from by cases i<;>simp[Addr.add]];exact hcell
   have q0:=(hbr.cell (p:=⟨bb,oo+i,none⟩) hadB).trans hc1;have hzr:=hbr.size
   have hbl:bb<wr.heap.size:=by have:bb<w.heap.size:=hadB;omega
   obtain⟨c2,W2,hrun,hbW,hzW,hcells⟩:=conv_bytes wr s
   have htk:(ss.take (i+1)).flatMap (fun s=>s.data.toList)=(ss.take i).flatMap (fun s=>s.data.toList)++s.data.toList:=by
    rw[List.take_add_one,hsi,List.flatMap_append];simp
   have hs1:crcSum ((ss.take (i+1)).flatMap fun s=>s.data.toList)=s.data.toList.foldl crcByte (crcSum ((ss.take i).flatMap fun s=>s.data.toList)):=by
    rw[htk];unfold crcSum;rw[List.foldl_append]
   have hS0:crcSum ((ss.take i).flatMap fun s=>s.data.toList)<4294967296:=crcFold_lt _ (by decide);have hbW2:=hbr.trans (hbW.mono hzr);have hTW:=hT'.out.below hbW2 hT'.out.pos
   generalize crcSum ((ss.take i).flatMap fun s=>s.data.toList)=S0 at *
   replace hs1:=Lib.hid hs1;replace htk:=Lib.hid htk;replace hbr:=Lib.hid hbr;replace hbW:=Lib.hid hbW;replace hbW2:=Lib.hid hbW2;replace hTW:=Lib.hid hTW;replace hcells:=Lib.hid hcells;replace hsi:=Lib.hid hsi;clear hcell hc1;go_wp2_with fail
   go_loopw [3,17] (fun sv jv wq=>∃j:Nat,j≤s.size∧jv=.int .i64 j∧sv=.int .u32 ((s.data.toList.take j).foldl crcByte S0:Nat)∧W2=wq) (fun _ jv _=>s.size-(intOf jv).toNat)
   case atStart=>exact⟨0,Nat.zero_le _,rfl,rfl,rfl⟩
   case round =>
    obtain⟨j,hj,rfl,rfl,rfl⟩:=hrel
    by_cases hjl:j<s.size
    ·have hjl':(j:Int)<s.size:=by omega
     have hx:=hcells.out j hjl
     have hjd:j<s.data.toList.length:=by rw[dlen];exact hjl
     rw[List.getD_eq_getElem?_getD,List.getElem?_eq_getElem hjd] at hx
     have hsn:(s.data.toList.take (j+1)).foldl crcByte S0=crcByte ((s.data.toList.take j).foldl crcByte S0) s.data.toList[j]:=by
      rw[List.take_succ_eq_append_getElem hjd,List.foldl_append];rfl
     have hlt2:=crcFold_lt (s.data.toList.take j) hS0
     generalize (s.data.toList.take j).foldl crcByte S0=x0 at *
     generalize s.data.toList[j]=c at *
     unfold B8 at hx;simp only[Option.getD_some] at hx;have hcl:=c.toNat_lt;have k1:bits .xor .u32 (x0:Int) (c.toNat:Nat)=((x0 ^^^ c.toNat:Nat):Int):=u32_xor_nat _ _ hlt2 (by omega);have hx1:=xor_lt hlt2 (show c.toNat<4294967296 by omega);rw[show crcByte x0 c=crcNib (crcNib (x0 ^^^ c.toNat)) from rfl] at hsn
     generalize x0 ^^^ c.toNat=x1 at *
     have k2:bits .and .u32 (x1:Int) 15=((x1 % 16:Nat):Int):=by
      have:=u32_and_nat x1 15 hx1 (by decide);rw[show x1 &&& 15=x1 % 16 from Nat.and_two_pow_sub_one_eq_mod x1 4] at this;exact this
     have hm1:x1 % 16<16:=Nat.mod_lt _ (by decide);have t1:=hTW.out (x1 % 16) hm1
     have k3:bits .xor .u32 ((x1:Int) / 16) (crcT (x1 % 16):Nat)=((crcNib x1:Nat):Int):=by
      have:=u32_xor_nat (x1 / 16) (crcT (x1 % 16)) (by omega) (crcT_lt _);rw[show ((x1 / 16:Nat):Int)=(x1:Int) / 16 from by omega] at this;exact this
     have hx2:=crcNib_lt hx1
     generalize crcT (x1 % 16)=tt1 at *
     generalize x1 % 16=i1 at *
     generalize crcNib x1=x2 at *
     have k4:bits .and .u32 (x2:Int) 15=((x2 % 16:Nat):Int):=by
      have:=u32_and_nat x2 15 hx2 (by decide);rw[show x2 &&& 15=x2 % 16 from Nat.and_two_pow_sub_one_eq_mod x2 4] at this;exact this
     have hm2:x2 % 16<16:=Nat.mod_lt _ (by decide);have t2:=hTW.out (x2 % 16) hm2
     have k5:bits .xor .u32 ((x2:Int) / 16) (crcT (x2 % 16):Nat)=((crcNib x2:Nat):Int):=by
      have:=u32_xor_nat (x2 / 16) (crcT (x2 % 16)) (by omega) (crcT_lt _);rw[show ((x2 / 16:Nat):Int)=(x2:Int) / 16 from by omega] at this;exact this
     generalize crcT (x2 % 16)=tt2 at *
     generalize x2 % 16=i2 at *
     generalize crcNib x2=x3 at *
     replace hsn:=Lib.hid hsn;go_wp2_with fail
     exact⟨⟨j+1,by omega,by rfl,by rw[hsn.out],trivial⟩,by first | omega | (simp only[intOf];omega)⟩
    ·obtain rfl:j=s.size:=by omega
     have hjl':¬(s.size:Int)<s.size:=by omega
     rw[List.take_of_length_le (by rw[dlen];exact Nat.le_refl _)];go_wp2_with fail
     refine⟨⟨i+1,by omega,by rfl,?_,hbW2.out⟩,by first | omega | (simp only[intOf];omega)⟩
     rw[hs1.out]
  ·obtain rfl:i=ss.length:=by omega
   have hlt':¬(ss.length:Int)<ss.length:=by omega
   rw[List.take_length];replace hbr:=Lib.hid hbr;have hcl:bits .xor .u32 (IntKind.u32.max:Int) ((crcSum (ss.flatMap fun s=>s.data.toList):Nat):Int)=(crcL (ss.flatMap fun s=>s.data.toList):Nat):=u32_xor_nat 4294967295 _ (by decide) (crcFold_lt _ (by decide));go_wp2_with fail
   go_ret
   exact⟨rfl,hbr.out⟩
end Go.Proofs.YtlpojfgeocpkeaaGreatDoor
