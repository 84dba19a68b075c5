/- Contracts of the law: holds. -/
import Derived.Test.YtlpojfgeocpkeaaGreatDoorX40
import Derived.Test.YtlpojfgeocpkeaaGreatDoorTRngJ
import Derived.Test.YtlpojfgeocpkeaaGreatDoorTOp2J
import Derived.Test.YtlpojfgeocpkeaaGreatDoorX38
namespace Go.Proofs.YtlpojfgeocpkeaaGreatDoor
open Go.RowKit Go.Sort
set_option linter.unusedVariables false
set_option linter.unusedSimpArgs false
theorem entsC_F:∀l:List Ent,entsC l=entsF l
 | []=>rfl
 | e::l=>by
  have h:=entsC_F l;show (entC e).toList++entsC l=enC e++entsF l;rw[h];rfl
theorem entsC_atJ:∀(l:List Ent) (i:Nat) (e:Ent),l[i]? = some e→(entsC l)[i*4]? = some (.string (bs e.key))∧(entsC l)[i*4+1]? = some (.string (bs e.value))∧(entsC l)[i*4+2]? = some (.int .u64 (e.seq:Nat))∧(entsC l)[i*4+3]? = some (.bool e.gone)
 | [],i,e,h=>by simp at h
 | x::l,0,e,h=>by simp at h;subst h;exact⟨rfl,rfl,rfl,rfl⟩
 | x::l,i+1,e,h=>by
  have ih:=entsC_atJ l i e (by simpa using h);have e1:entsC (x::l)=.string (bs x.key)::.string (bs x.value)::.int .u64 (x.seq:Nat)::.bool x.gone::entsC l:=rfl;rw[e1,show (i+1)*4=i*4+1+1+1+1 from by omega]
  simpa using ih
set_option maxRecDepth 100000 in
set_option maxHeartbeats 4000000 in
theorem JSame_refl (A A':Option Addr)(l:List Ent)(cap cap':Nat)(w:World)(hr:Reads w w.heap.size 4 A l.length (entsC l))(hr':Reads w w.heap.size 4 A' l.length (entsC l))(hl:l.length≤9223372036854775807) :
  Calls Tryz.prog 57 #[.slice A l.length cap,.slice A' l.length cap'] w fun e w'=>e=.returned (.bool true)∧Below w.heap.size w w':=by
 go_enter Tryz.func57,Tryz.ntmps57
 go_wp2_with fail
 go_loopw [5] (fun iv wr=>∃i,i≤l.length∧iv=.int .i64 (i:Nat)∧Below w.heap.size w wr) (fun iv _=>l.length-(intOf iv).toNat)
 case atStart=>exact⟨0,Nat.zero_le _,rfl,Below.refl _ _⟩
 case round =>
  obtain⟨i,hi,rfl,hbr⟩:=hrel;have hzr:=hbr.size
  by_cases hil:i<l.length
  ·have hil':((i:Nat):Int)<(l.length:Nat):=by omega
   have hx:=List.getElem?_eq_getElem hil;obtain⟨ad,rfl,hab,acell⟩:=(hr.below hbr).2 (by omega);obtain⟨ad2,rfl,hab2,bcell⟩:=(hr'.below hbr).2 (by omega);obtain⟨abb,aoo,rfl⟩:=plain_cell (acell 0 _ (entsC_atJ l 0 l[0] (List.getElem?_eq_getElem (by omega))).1);obtain⟨aq0,aq1,aq2,aq3⟩:=entsC_atJ l i _ hx;replace aq0:=acell _ _ aq0;replace aq1:=acell _ _ aq1;replace aq2:=acell _ _ aq2;replace aq3:=acell _ _ aq3;rw[add_off] at aq0 aq1 aq2 aq3;rw[←Nat.add_assoc] at aq1 aq2 aq3;clear acell;obtain⟨bbb,boo,rfl⟩:=plain_cell (bcell 0 _ (entsC_atJ l 0 l[0] (List.getElem?_eq_getElem (by omega))).1);obtain⟨bq0,bq1,bq2,bq3⟩:=entsC_atJ l i _ hx;replace bq0:=bcell _ _ bq0;replace bq1:=bcell _ _ bq1;replace bq2:=bcell _ _ bq2;replace bq3:=bcell _ _ bq3;rw[add_off] at bq0 bq1 bq2 bq3;rw[←Nat.add_assoc] at bq1 bq2 bq3;clear bcell;have ha':abb<wr.heap.size:=Nat.lt_of_lt_of_le hab hzr;have hb':bbb<wr.heap.size:=Nat.lt_of_lt_of_le hab2 hzr;replace hx:=Lib.hid hx
   generalize l[i]=eo at *
   go_wp2_with fail
   have hxc:=@Ext.cell;refine wp_region_ext (by kernel_rfl) (by kernel_rfl) ?_
   repeat (go_big_quiet_step ((first | fail)))
   refine wpQuiet_nil ?_;clear hxc;intro wx hwx;obtain⟨x,hx⟩:=hwx;have hb:=x.below;rw[←hx] at hb;clear hx x;go_wp2_with fail
   exact⟨⟨i+1,by omega,by go_num,hbr.trans (hb.mono hzr)⟩,by first | omega | (simp only[intOf];omega)⟩
  ·obtain rfl:i=l.length:=by omega
   have hil':¬((l.length:Nat):Int)<(l.length:Nat):=by omega
   go_wp2_with fail
   go_ret
   exact⟨rfl,hbr⟩
set_option maxRecDepth 100000 in
set_option maxHeartbeats 4000000 in
theorem holds_any {w:World}{d:Nat}{s:Dsk}{m:Nat}(gd:s.Good m)(hm:m<1000000)(hD:Dx (fun _=>False) w d s)(hG:Gl w)(h5:Tab w)(hz7:7≤w.heap.size)(x:TI)(hxn:x.n<18446744073709551616){S:L}(hrd:s.read (nameT x.n)=(S,0))(hsz:x.size=S.length)(hS:S.length≤98304)
  {f:L} {ix:List (L × L)} {bls:List (List (L × L))} {l:List Ent} (hop:openT S=some (f,ix,bls)) (hrg:rangeP ix bls [] []=l) (hbl:bls.length=ix.length) {A:Option Addr} {cap:Nat} (hr:Reads w w.heap.size 4 A l.length (entsC l)) (hl:l.length≤1048576) :
  Calls Tryz.prog 27 #[.pointer (some ⟨d,0,none⟩),.agg (tiC x),.slice A l.length cap] w fun e w'=>e=.returned (.bool true)∧Below w.heap.size w w':=by
 have hal:Below w.heap.size w (w.alloc (.cells (tiC x) 51)):=(Below.refl _ _).alloc (Nat.le_refl _) _;have hX0:=Blk.new w 51 (tiC x);have hz1:=hal.size;have hnm:=Name_any (bs tabW) x.n (by decide) hxn (w.alloc (.cells (tiC x) 51)) (h5.low hal (by omega));rw[bs_data] at hnm;replace hnm:Calls Tryz.prog 25 #[.string ⟨#[116,97,98,108,101]⟩,.int .u64 (x.n:Nat)] (w.alloc (.cells (tiC x) 51)) fun e w'=>e=.returned (.string (bs (nameT x.n)))∧Below (w.alloc (.cells (tiC x) 51)).heap.size (w.alloc (.cells (tiC x) 51)) w':=hnm
 have hxs:((bs S).size:Int)=(x.size:Nat):=by rw[bs_size,hsz]
 have hxs2:(((bs S).size:Int) != (x.size:Nat))=false:=by rw[hxs];simp
 replace hxs:=Lib.hid hxs;replace hnm:=Lib.hid hnm;replace hal:=Lib.hid hal;replace hX0:=Lib.hid hX0;replace hD:=Lib.hid hD;replace hG:=Lib.hid hG;replace h5:=Lib.hid h5;replace hrd:=Lib.hid hrd;replace hop:=Lib.hid hop;replace hrg:=Lib.hid hrg;replace hbl:=Lib.hid hbl;replace hr:=Lib.hid hr;replace hsz:=Lib.hid hsz;unfold tiC strV;have hX0:=hX0.out;unfold tiC strV at hX0 hnm hal;have x0:=hX0.cell 0;have xl:=hX0.lt
 go_enter Tryz.func27,Tryz.ntmps27
 go_wp2_with fail
 refine hnm.out.mono ?_;clear hnm;rintro e w1 ⟨rfl,hb1⟩;have hb01:=hal.out.trans (hb1.mono hal.out.size);have hX1:=hX0.below hb1 hX0.lt;have hD1:=hD.out.grow hb01 (Y:=fun _=>False) (fun k q=>q.elim);have hnl:=nameT_len x.n hxn;have hre:=Read_dx hD1 gd (by omega) (bs (nameT x.n)) (by rw[bs_size];omega);rw[bs_data,hrd.out] at hre;have x3:=hX1.cell 3;have x1l:=hX1.lt;clear x0 xl hX0 hb1 hX1;replace hre:=Lib.hid hre;replace hb01:=Lib.hid hb01;replace hD1:=Lib.hid hD1;go_wp2_with fail
 refine hre.out.mono ?_;clear hre;rintro e w2 ⟨rfl,rfl⟩;have hz01:=hb01.out.size;have hopn:=TOpen_any (bs S) w1 (by rw[bs_size];omega) (hG.out.below hb01.out (by omega));rw[bs_data,hop.out] at hopn;replace hopn:=Lib.hid hopn;go_wp2_with fail
 refine hopn.out.mono ?_;clear hopn;rintro e w4 ⟨⟨gt,rfl,hTF⟩,hb4⟩;have hb04:=hb01.out.trans (hb4.mono hz01);have hTT:=hTF.at_;simp only at hTT;have hz04:=hb04.size;have hal2:=All_any hTT hbl.out (hG.out.below hb04 (by omega));rw[hrg.out] at hal2;replace hal2:=Lib.hid hal2;replace hb04:=Lib.hid hb04;clear hTF hTT hb4 x3 x1l;go_wp2_with fail
 refine hal2.out.mono ?_;clear hal2;rintro e w5 ⟨v5,rfl,hO5,hb5⟩;obtain⟨A5,c5,rfl⟩:=hO5.form;have hb05:=hb04.out.trans (hb5.mono hz04);have hr5:=(hr.out.below hb05).more hb05.size;have hsm:=JSame_refl A5 A l c5 cap w5 (Reads.of_own hO5) hr5 (by omega);replace hsm:=Lib.hid hsm;replace hb05:=Lib.hid hb05;clear hO5 hb5 hr5;go_wp2_with fail
 refine hsm.out.mono ?_;clear hsm;rintro e w6 ⟨rfl,hb6⟩;have hfin:=Lib.hid (hb05.out.trans (hb6.mono hb05.out.size));clear hb6;go_wp2_with fail
 go_ret
 exact⟨rfl,hfin.out⟩
end Go.Proofs.YtlpojfgeocpkeaaGreatDoor
