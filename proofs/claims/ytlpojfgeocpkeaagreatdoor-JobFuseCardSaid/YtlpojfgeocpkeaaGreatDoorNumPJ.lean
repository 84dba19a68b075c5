/- Contracts: disk.Number. -/
import Derived.Test.YtlpojfgeocpkeaaGreatDoorFmtUJ
import Derived.Lib.AtoiErrMem
namespace Go.Proofs.YtlpojfgeocpkeaaGreatDoor
open Go.RowKit Go.Lib Go.Sort
set_option linter.unusedVariables false
set_option linter.unusedSimpArgs false
theorem g_tab:Tryz.prog.globalNamed "internal/strconv.uint64pow10"=some 0:=by kernel_rfl
theorem g_syn:Tryz.prog.globalNamed "strconv.ErrSyntax"=some 2:=by kernel_rfl
theorem g_ran:Tryz.prog.globalNamed "strconv.ErrRange"=some 3:=by kernel_rfl
theorem var_below {P:Program}{B g:Nat}{w w':World}{n:String}{cs:Array Value}(hg:P.globalNamed n=some g)(h:w.var? P n=some cs)(hb:Below B w w')(hB:g<B):w'.var? P n=some cs:=by
 unfold World.var? at *
 simp only[hg,Option.bind_some] at h ⊢;rw[hb.block g hB];exact h
structure Laid5 (w:World):Prop where
 tab:Tab w
 syn:∃tp p,w.var? Tryz.prog "strconv.ErrSyntax"=some #[.iface tp p]
 ran:∃tp p,w.var? Tryz.prog "strconv.ErrRange"=some #[.iface tp p]
theorem Laid5.below {B:Nat}{w w':World}(h:Laid5 w)(hb:Below B w w')(hB:6≤B):Laid5 w':=by
 obtain⟨h1,⟨t2,p2,h2⟩,⟨t3,p3,h3⟩⟩:=h;exact⟨var_below g_tab h1 hb (by omega),⟨t2,p2,var_below g_syn h2 hb (by omega)⟩,⟨t3,p3,var_below g_ran h3 hb (by omega)⟩⟩
def numV:Option Nat→Value
 | some u=>.tuple #[.int .u64 (u:Nat),.bool true]
 | none=>.tuple #[.int .u64 0,.bool false]
theorem trim_len (s p:List UInt8):(trimPrefix s p).length≤s.length:=by
 unfold trimPrefix;split
 ·rw[List.length_drop];omega
 ·exact Nat.le_refl _
theorem bytes_below (w:World)(t:TypeId)(s:ByteArray):Below w.heap.size w (bytesWorld w t s):=bytesWorld_below w t s
set_option maxRecDepth 100000 in
set_option maxHeartbeats 2000000 in
theorem Number_any (word name:ByteArray)(hw:word.size≤1048576)(hn:name.size≤2097152)(w:World)(hl:Laid5 w)(h6:6≤w.heap.size) :
  Calls Tryz.prog 35 #[.string word,.string name] w fun e w'=>e=.returned (numV (numP word.data.toList name.data.toList))∧Below w.heap.size w w':=by
 have hcp:=Tryz.strings_CutPrefix name (word++⟨#[46]⟩) w
 have ew:(word++⟨#[46]⟩:ByteArray).data.toList=word.data.toList++[46]:=by
  rw[show word++(⟨#[46]⟩:ByteArray)=bs (word.data.toList++[46]) from by rw[←bs_append,bs_of];rfl,bs_data]
 rw[ew] at hcp;have htl:=trim_len name.data.toList (word.data.toList++[46]);have hns:name.data.toList.length=name.size:=rfl;obtain⟨t,ht⟩:∃t,trimPrefix name.data.toList (word.data.toList++[46])=t:=⟨_,rfl⟩;rw[ht] at hcp htl;have e1:(⟨t.toArray⟩:ByteArray)=bs t:=rfl;rw[e1] at hcp
 have hts:(bs t).size≤2097152:=by rw[bs_size];omega
 replace hcp:=Lib.hid hcp;clear e1 ew htl;rcases hp:parseUintB 64 t with u | _ | _
 ·
  have hu:u<18446744073709551616:=by have:=parseUintB_le hp;omega
  have hc:=Tryz.strconv_ParseUint_10_at64_ok (bs t) (by omega) u (by rw[bs_data];exact hp) w;have hnm:=fun W hb=>Name_any word u hw hu W (hl.below (B:=w.heap.size) (w':=W) hb h6).tab;replace hc:=Lib.hid hc;replace hnm:=Lib.hid hnm;replace hp:=Lib.hid hp;replace hl:=Lib.hid hl
  have hP:numP word.data.toList name.data.toList=if nameL word.data.toList u=name.data.toList then some u else none:=by unfold numP;rw[ht,hp.out]
  rw[hP];clear hP;have htl2:(bs (nameL word.data.toList u)).toList=nameL word.data.toList u:=bs_toList _
  have htl3:name.toList=name.data.toList:=by rw[ByteArray.toList_eq]
  by_cases he:nameL word.data.toList u=name.data.toList
  ·rw[if_pos he]
   have he2:(bs (nameL word.data.toList u)).toList=name.toList:=by rw[htl2,htl3];exact he
   replace htl2:=Lib.hid htl2;replace htl3:=Lib.hid htl3;replace he:=Lib.hid he
   go_enter Tryz.func35,Tryz.ntmps35
   go_wp2_with fail
   refine hcp.out.mono ?_;rintro e w1 ⟨rfl,rfl⟩;go_wp2_with fail
   refine hc.out.mono ?_;rintro e w2 ⟨rfl,hw2⟩
   have hb2:Below w1.heap.size w1 w2:=by
    rcases hw2 with rfl | rfl
    ·exact Below.refl _ _
    ·exact bytes_below _ _ _
   clear hw2;go_wp2_with fail
   refine (hnm.out w2 hb2).mono ?_;rintro e w3 ⟨rfl,hb3⟩;have hfin:=hb2.trans (hb3.mono hb2.size);replace hfin:=Lib.hid hfin;clear hb2 hb3;go_wp2_with fail
   go_ret2
   exact⟨rfl,hfin.out⟩
  ·rw[if_neg he]
   have he2:¬(bs (nameL word.data.toList u)).toList=name.toList:=by rw[htl2,htl3];exact he
   have he3:((bs (nameL word.data.toList u)).toList==name.toList)=false:=by simpa using he2
   replace htl2:=Lib.hid htl2;replace htl3:=Lib.hid htl3;replace he:=Lib.hid he
   go_enter Tryz.func35,Tryz.ntmps35
   go_wp2_with fail
   refine hcp.out.mono ?_;rintro e w1 ⟨rfl,rfl⟩;go_wp2_with fail
   refine hc.out.mono ?_;rintro e w2 ⟨rfl,hw2⟩
   have hb2:Below w1.heap.size w1 w2:=by
    rcases hw2 with rfl | rfl
    ·exact Below.refl _ _
    ·exact bytes_below _ _ _
   clear hw2;go_wp2_with fail
   refine (hnm.out w2 hb2).mono ?_;rintro e w3 ⟨rfl,hb3⟩;have hfin:=hb2.trans (hb3.mono hb2.size);replace hfin:=Lib.hid hfin;clear hb2 hb3;go_wp2_with fail
   go_ret2
   exact⟨rfl,hfin.out⟩
 ·
  have hP:numP word.data.toList name.data.toList=none:=by unfold numP;rw[ht,hp]
  rw[hP];clear hP;obtain⟨tp,pp,hv⟩:=hl.syn
  have hc:Calls Tryz.prog 64 #[.string (bs t),.int .i64 10,.int .i64 64] w fun e w'=>∃N,e=.returned (.tuple #[.int .u64 0,.iface 194 (.pointer (some ⟨N,0,none⟩))])∧w.heap.size≤N∧w'.heap[N]? = some (.cells #[.string ⟨#[80,97,114,115,101,85,105,110,116]⟩,.string (bs t),.iface tp pp] 232 (0,0))∧Below w.heap.size w w' :=
   Any.strconv_ParseUint_10_at64_syntax_var Tryz.laysPu14 (bs t) (by omega) (by rw[bs_data];exact hp) tp pp w hv
  replace hc:=Lib.hid hc;replace hp:=Lib.hid hp;replace hl:=Lib.hid hl;replace hv:=Lib.hid hv
  go_enter Tryz.func35,Tryz.ntmps35
  go_wp2_with fail
  refine hcp.out.mono ?_;rintro e w1 ⟨rfl,rfl⟩;go_wp2_with fail
  refine hc.out.mono ?_;rintro e w2 ⟨N,rfl,hN,hNb,hb2⟩;replace hb2:=Lib.hid hb2;replace hNb:=Lib.hid hNb;go_wp2_with fail
  go_ret2
  exact⟨rfl,hb2.out⟩
 ·
  have hP:numP word.data.toList name.data.toList=none:=by unfold numP;rw[ht,hp]
  rw[hP];clear hP;obtain⟨tp,pp,hv⟩:=hl.ran;have hc:=Tryz.strconv_ParseUint_10_at64_range_var (bs t) (by omega) (by rw[bs_data];exact hp) tp pp w hv;replace hc:=Lib.hid hc;replace hp:=Lib.hid hp;replace hl:=Lib.hid hl;replace hv:=Lib.hid hv
  go_enter Tryz.func35,Tryz.ntmps35
  go_wp2_with fail
  refine hcp.out.mono ?_;rintro e w1 ⟨rfl,rfl⟩;go_wp2_with fail
  refine hc.out.mono ?_;rintro e w2 ⟨N,rfl,hN,hNb,hb2⟩;replace hb2:=Lib.hid hb2;replace hNb:=Lib.hid hNb;go_wp2_with fail
  go_ret2
  exact⟨rfl,hb2.out⟩
end Go.Proofs.YtlpojfgeocpkeaaGreatDoor
