/- table.Builder: New, bad. table.Builder: what an operation leaves; ends. table.Builder: Add: what its regions do to the builder's block. -/
import Derived.Test.YtlpojfgeocpkeaaGreatDoorX18
import Derived.Test.YtlpojfgeocpkeaaGreatDoorTBA2J
import Derived.Test.YtlpojfgeocpkeaaGreatDoorX01
import Derived.Test.YtlpojfgeocpkeaaGreatDoorX00
namespace Go.Proofs.YtlpojfgeocpkeaaGreatDoor
open Go.RowKit
set_option linter.unusedVariables false
set_option linter.unusedSimpArgs false
set_option maxRecDepth 100000 in
set_option maxHeartbeats 1000000 in
theorem New_any (n:Nat)(level:Int)(w:World) :
  Calls Tryz.prog 71 #[.int .u64 (n:Nat),.int .i64 level] w fun e w'=>(∃g,e=.returned (.pointer (some ⟨g,0,none⟩))∧TBAt w' w.heap.size g (TB.new n level) (.slice none 0 0) (.slice none 0 0) (.slice none 0 0) (.slice none 0 0) (.slice none 0 0) (.slice none 0 0))∧Below w.heap.size w w':=by
 have hfin:TBAt (w.alloc (.cells (tbC (TB.new n level) (.slice none 0 0) (.slice none 0 0) (.slice none 0 0) (.slice none 0 0) (.slice none 0 0) (.slice none 0 0)) 159)) w.heap.size w.heap.size (TB.new n level) (.slice none 0 0) (.slice none 0 0) (.slice none 0 0) (.slice none 0 0) (.slice none 0 0) (.slice none 0 0) :=
  ⟨Nat.le_refl _,Blk.new _ _ _,OwnB.nil _ _,World.ownsRow_nil _ _ _ 1,OwnB.nil _ _,World.ownsRow_nil _ _ _ 1,World.ownsRow_nil _ _ _ 1,World.ownsRow_nil _ _ _ 1,(fun k h=>by cases h),(fun k h=>by cases h),(fun k h=>by cases h)⟩
 replace hfin:=Lib.hid hfin
 go_enter Tryz.func71,Tryz.ntmps71
 go_wp2_with fail
 go_ret
 exact⟨⟨_,rfl,hfin.out⟩,(Below.refl _ _).alloc (Nat.le_refl _) _⟩
theorem nil_beq (l:L):((bs l).toList==([]:L))=decide (l=[]):=by
 rw[bs_toList]
 by_cases h:l=[]<;>simp[h]
set_option maxRecDepth 100000 in
set_option maxHeartbeats 4000000 in
theorem bad_any {w:World}{B g:Nat}{s:TB}{vb1 vs1 vb2 vs2 vk vp:Value}(h:TBAt w B g s vb1 vs1 vb2 vs2 vk vp)(hG:Gl w)(e:Ent)(hk:e.key.length≤1048576)(hs:e.seq<18446744073709551616) :
  Calls Tryz.prog 103 #[.pointer (some ⟨g,0,none⟩),.agg (entC e)] w fun r w'=>r=.returned (.bool (s.bad e))∧Below w.heap.size w w':=by
 have hbx:Below w.heap.size w (w.alloc (.cells (entC e) 46)):=(Below.refl _ _).alloc (Nat.le_refl _) _;have hlt:=h.blk.lt;have hkb:=nil_beq e.key;have hvb:=nil_beq e.value;have hc2:w.cell? ⟨g,2,none⟩=some (.int .i64 (s.t.count:Nat)):=h.blk.cell 2;have hc16:w.cell? ⟨g,16,none⟩=some (strV s.last):=h.blk.cell 16;unfold strV at hc16;have hG1:=hG.lt;have hin:=fun W=>fun (hb:Below w.heap.size w W)=>Internal_any (bs e.key) e.seq W (hG.below hb hG1) (by rw[bs_size];exact hk) hs;rw[bs_data] at hin;obtain⟨ek,ev,eq,eg⟩:=e;unfold TB.bad;simp only[rowK] at hin ⊢;simp only[entC] at hbx ⊢
 generalize internalL ek eq=ik at *
 by_cases hk0:ek=[]
 ·simp only[hk0,decide_true,Bool.true_or]
  have hd:decide (ek=[])=true:=by simpa using hk0
  rw[hd] at hkb;replace hin:=Lib.hid hin;replace hk0:=Lib.hid hk0
  subst_vars
  go_enter Tryz.func103,Tryz.ntmps103
  go_wp2_with fail
  go_ret
  exact⟨rfl,hbx⟩
 ·have hd:decide (ek=[])=false:=by simpa using hk0
  rw[hd] at hkb;simp only[hd,Bool.false_or];replace hk0:=Lib.hid hk0
  by_cases hgv:eg=true∧¬ev=[]
  ·obtain⟨rfl,hv0⟩:=hgv
   have hd2:decide (ev=[])=false:=by simpa using hv0
   rw[hd2] at hvb;simp only[hd2,Bool.not_false,Bool.true_and,Bool.true_or];replace hin:=Lib.hid hin;replace hv0:=Lib.hid hv0;clear hd hd2
   go_enter Tryz.func103,Tryz.ntmps103
   go_wp2_with fail
   go_ret
   exact⟨rfl,hbx⟩
  ·have hgf:(eg&&!decide (ev=[]))=false:=by
    cases eg
    ·rfl
    ·have:ev=[]:=Classical.byContradiction fun h=>hgv ⟨rfl,h⟩;simp[this]
   rw[hgf,Bool.false_or];clear hd
   by_cases hq0:eq<1
   ·have hq0':((eq:Nat):Int)<1:=by omega
    have hd3:decide (eq<1)=true:=by simpa using hq0
    rw[hd3,Bool.true_or,Bool.true_or];replace hin:=Lib.hid hin;clear hd3;cases eg
    ·replace hgf:=Lib.hid hgf;clear hgv
     go_enter Tryz.func103,Tryz.ntmps103
     go_wp2_with fail
     go_ret
     exact⟨rfl,hbx⟩
    ·have hv0:ev=[]:=Classical.byContradiction fun h=>hgv ⟨rfl,h⟩
     have hd2:decide (ev=[])=true:=by simpa using hv0
     rw[hd2] at hvb;replace hv0:=Lib.hid hv0;replace hgf:=Lib.hid hgf;clear hgv hd2
     go_enter Tryz.func103,Tryz.ntmps103
     go_wp2_with fail
     go_ret
     exact⟨rfl,hbx⟩
   ·have hq0':¬((eq:Nat):Int)<1:=by omega
    have hd3:decide (eq<1)=false:=by simpa using hq0
    rw[hd3,Bool.false_or];clear hd3
    by_cases hq1:9223372036854775808<eq
    ·have hq1':(9223372036854775808:Int)<((eq:Nat):Int):=by omega
     have hd3:decide (9223372036854775808<eq)=true:=by simpa using hq1
     rw[hd3,Bool.true_or];replace hin:=Lib.hid hin;clear hd3;cases eg
     ·replace hgf:=Lib.hid hgf;clear hgv
      go_enter Tryz.func103,Tryz.ntmps103
      go_wp2_with fail
      go_ret
      exact⟨rfl,hbx⟩
     ·have hv0:ev=[]:=Classical.byContradiction fun h=>hgv ⟨rfl,h⟩
      have hd2:decide (ev=[])=true:=by simpa using hv0
      rw[hd2] at hvb;replace hv0:=Lib.hid hv0;replace hgf:=Lib.hid hgf;clear hgv hd2
      go_enter Tryz.func103,Tryz.ntmps103
      go_wp2_with fail
      go_ret
      exact⟨rfl,hbx⟩
    ·have hq1':¬(9223372036854775808:Int)<((eq:Nat):Int):=by omega
     have hd3:decide (9223372036854775808<eq)=false:=by simpa using hq1
     rw[hd3,Bool.false_or];clear hd3;have hin3:∀x:Ext (w.alloc (.cells #[.string (bs ek),.string (bs ev),.int .u64 (eq:Nat),.bool eg] 46)),Calls Tryz.prog 104 #[.string (bs ek),.int .u64 (eq:Nat)] x.w fun e w'=>e=.returned (.string (bs ik))∧Below x.w.heap.size x.w w':=fun x=>hin x.w (hbx.trans (x.below.mono hbx.size))
     have hle:(Op.bytesLess (bs ik).toList (bs s.last).toList||(bs ik).toList==(bs s.last).toList)=!(lessL s.last ik):=by
      rw[bs_toList,bs_toList];exact less_tri _ _
     have hB:=Blk.new w 46 #[.string (bs ek),.string (bs ev),.int .u64 (eq:Nat),.bool eg];have hga:=h.blk.alloc (.cells #[.string (bs ek),.string (bs ev),.int .u64 (eq:Nat),.bool eg] 46);have za2:(w.alloc (.cells #[.string (bs ek),.string (bs ev),.int .u64 (eq:Nat),.bool eg] 46)).cell? ⟨g,2,none⟩=some (.int .i64 (s.t.count:Nat)):=hga.cell 2;have za16:(w.alloc (.cells #[.string (bs ek),.string (bs ev),.int .u64 (eq:Nat),.bool eg] 46)).cell? ⟨g,16,none⟩=some (.string (bs s.last)):=hga.cell 16;replace hin:=Lib.hid hin;replace hin3:=Lib.hid hin3;replace hq0:=Lib.hid hq0;replace hq1:=Lib.hid hq1
     by_cases hc0:0<s.t.count
     ·have hc0':(0:Int)<(s.t.count:Nat):=by omega
      have hd4:decide (0<s.t.count)=true:=by simpa using hc0
      rw[hd4,Bool.true_and]
      generalize (!lessL s.last ik)=res at *
      clear hd4;cases eg
      ·replace hgf:=Lib.hid hgf;clear hgv
       go_enter Tryz.func103,Tryz.ntmps103
       go_wp2_with fail
       have hxc:=@Ext.cell;refine wp_region_ext (by kernel_rfl) (by kernel_rfl) ?_
       repeat (go_big_quiet_step ((first | (go_at_call 104;exact Calls.ext (hin3.out _)))))
       refine wpQuiet_nil ?_;clear hxc;intro wx hwx;obtain⟨x,hx⟩:=hwx;have hb:=x.below;rw[←hx] at hb;clear hx x;go_wp2_with fail
       go_ret
       exact⟨rfl,hbx.trans (hb.mono hbx.size)⟩
      ·have hv0:ev=[]:=Classical.byContradiction fun h=>hgv ⟨rfl,h⟩
       have hd2:decide (ev=[])=true:=by simpa using hv0
       rw[hd2] at hvb;replace hv0:=Lib.hid hv0;replace hgf:=Lib.hid hgf;clear hgv hd2
       go_enter Tryz.func103,Tryz.ntmps103
       go_wp2_with fail
       have hxc:=@Ext.cell;refine wp_region_ext (by kernel_rfl) (by kernel_rfl) ?_
       repeat (go_big_quiet_step ((first | (go_at_call 104;exact Calls.ext (hin3.out _)))))
       refine wpQuiet_nil ?_;clear hxc;intro wx hwx;obtain⟨x,hx⟩:=hwx;have hb:=x.below;rw[←hx] at hb;clear hx x;go_wp2_with fail
       go_ret
       exact⟨rfl,hbx.trans (hb.mono hbx.size)⟩
     ·have hc0':¬(0:Int)<(s.t.count:Nat):=by omega
      have hd4:decide (0<s.t.count)=false:=by simpa using hc0
      rw[hd4,Bool.false_and];clear hd4 hle;cases eg
      ·replace hgf:=Lib.hid hgf;clear hgv
       go_enter Tryz.func103,Tryz.ntmps103
       go_wp2_with fail
       have hxc:=@Ext.cell;refine wp_region_ext (by kernel_rfl) (by kernel_rfl) ?_
       repeat (go_big_quiet_step ((first | (go_at_call 104;exact Calls.ext (hin3.out _)))))
       refine wpQuiet_nil ?_;clear hxc;intro wx hwx;obtain⟨x,hx⟩:=hwx;have hb:=x.below;rw[←hx] at hb;clear hx x;go_wp2_with fail
       go_ret
       exact⟨rfl,hbx.trans (hb.mono hbx.size)⟩
      ·have hv0:ev=[]:=Classical.byContradiction fun h=>hgv ⟨rfl,h⟩
       have hd2:decide (ev=[])=true:=by simpa using hv0
       rw[hd2] at hvb;replace hv0:=Lib.hid hv0;replace hgf:=Lib.hid hgf;clear hgv hd2
       go_enter Tryz.func103,Tryz.ntmps103
       go_wp2_with fail
       have hxc:=@Ext.cell;refine wp_region_ext (by kernel_rfl) (by kernel_rfl) ?_
       repeat (go_big_quiet_step ((first | (go_at_call 104;exact Calls.ext (hin3.out _)))))
       refine wpQuiet_nil ?_;clear hxc;intro wx hwx;obtain⟨x,hx⟩:=hwx;have hb:=x.below;rw[←hx] at hb;clear hx x;go_wp2_with fail
       go_ret
       exact⟨rfl,hbx.trans (hb.mono hbx.size)⟩
def TBIn (w:World)(F:Nat→Prop)(g:Nat)(s:TB):Prop:=∃vb1 vs1 vb2 vs2 vk vp,TBAt w 0 g s vb1 vs1 vb2 vs2 vk vp∧∀k,TS g vb1 vs1 vb2 vs2 vk vp k→F k
def Fx (F:Nat→Prop)(w w':World):Nat→Prop:=fun k=>F k∨w.heap.size≤k
theorem TBIn.below {w w':World}{F:Nat→Prop}{g:Nat}{s:TB}(h:TBIn w F g s)(hb:Below w.heap.size w w'):TBIn w' F g s:=by
 obtain⟨a,b,c,d,e,f,h1,h2⟩:=h;exact⟨a,b,c,d,e,f,h1.below hb,h2⟩
theorem TBIn.more {w:World}{F F':Nat→Prop}{g:Nat}{s:TB}(h:TBIn w F g s)(hF:∀k,F k→F' k):TBIn w F' g s:=by
 obtain⟨a,b,c,d,e,f,h1,h2⟩:=h;exact⟨a,b,c,d,e,f,h1,fun k hk=>hF k (h2 k hk)⟩
theorem TBIn.kept {w w':World}{S F:Nat→Prop}{g:Nat}{s:TB}(h:TBIn w F g s)(hk:KeptBut w w' S)(hs:∀k,F k→¬S k):TBIn w' F g s:=by
 obtain⟨a,b,c,d,e,f,h1,h2⟩:=h;exact⟨a,b,c,d,e,f,h1.kept hk (fun k hk=>hs k (h2 k hk)),h2⟩
theorem TBIn.g {w:World}{F:Nat→Prop}{g:Nat}{s:TB}(h:TBIn w F g s):F g:=by
 obtain⟨a,b,c,d,e,f,h1,h2⟩:=h;exact h2 g (.inl rfl)
theorem string_info:(Tryz.prog.info? 9).map (fun i=>(i.zero,i.size,i.bytes))=some (some (.string ⟨#[]⟩),1,16):=by kernel_rfl
theorem new_str (w:World)(a:ByteArray)(t:TypeId):Reads (w.alloc (.cells #[.string a] t)) (w.heap.size+1) 1 (some ⟨w.heap.size,0,none⟩) 1 [.string a]:=by
 refine⟨rfl,fun _=>⟨_,rfl,by simp,fun j u hu=>?_⟩⟩;rw[add_off,Nat.zero_add,(Blk.new w t #[.string a]).cell j]
 simpa using hu
theorem Var_two (b:Nat)(n m:Nat)(w:World)(h0:w.cell? ⟨b,0,none⟩=some (.int .u64 (n:Nat)))(h1:w.cell? ⟨b,1,none⟩=some (.int .u64 (m:Nat)))(hn:n≤4611686018427387904)(hm:m≤4611686018427387904) :
  Calls Tryz.prog 145 #[.slice (some ⟨b,0,none⟩) 2 2] w fun e w'=>e=.returned (.string (bs (varL [n,m])))∧Below w.heap.size w w':=by
 have h:=Var_any (some ⟨b,0,none⟩) [(n:Int),(m:Int)] 2 w ⟨rfl,fun _=>⟨_,rfl,cell_lt h0,fun j u hu=>by
  rcases j with _ | _ | j
  ·simp at hu;subst hu;exact h0
  ·simp at hu;subst hu;exact h1
  ·simp at hu⟩⟩ (fun x hx=>by simp at hx;rcases hx with rfl | rfl<;>exact⟨by omega,by omega⟩) (by simp)
 simpa[bs] using h
theorem setBB_self {cs:Array Value}{off:Nat}{s:BB}{vb vs:Value}(e0:cs[off]? = some vb)(e1:cs[off+1]? = some vs)(e2:cs[off+2]? = some (.int .i64 s.count))(e3:cs[off+3]? = some (.string (bs s.last))):setBB cs off vb vs s=cs:=by
 unfold setBB;rw[set_self_get e0,set_self_get e1,set_self_get e2,set_self_get e3]
theorem BAdd_all {w:World}{B g t off:Nat}{cs:Array Value}{s:BB}{vb vs:Value}(h:BBAt w B g t off cs s vb vs)(k v:ByteArray)(hB:B≤w.heap.size)(hb:s.b.length≤1099511627776)(hst:s.starts.length≤1099511627776)(hcnt:s.count≤1099511627776)(hla:s.last.length≤1099511627776) :
  Calls Tryz.prog 105 #[.pointer (some ⟨g,off,none⟩),.string k,.string v] w fun e w'=>e=.returned (.int .i64 (s.err k.data.toList v.data.toList:Nat))∧∃x y,BBAt w' B g t off (setBB cs off x y (s.add k.data.toList v.data.toList)) (s.add k.data.toList v.data.toList) x y∧KeptBut w w' (BS g vb vs)∧Mv w vb x∧Mv w vs y:=by
 by_cases he:s.err k.data.toList v.data.toList=0
 ·have ha:s.add k.data.toList v.data.toList=s.put k.data.toList v.data.toList:=by unfold BB.add;rw[if_pos he]
  refine (BAdd_ok h k v he hB hb hst hcnt hla).mono ?_;rintro e w' ⟨rfl,x,y,h1,h2,h3,h4⟩;rw[ha,he];exact⟨rfl,x,y,h1,h2,h3.mv,h4.mv⟩
 ·have ha:s.add k.data.toList v.data.toList=s:=by unfold BB.add;rw[if_neg he]
  refine (BAdd_err h k v he).mono ?_;rintro e w' ⟨rfl,hb⟩;rw[ha];refine⟨rfl,vb,vs,?_,KeptBut.of_below hb,Mv.refl _ _,Mv.refl _ _⟩;rw[setBB_self h.e0 h.e1 h.e2 h.e3];exact h.below hb
theorem TBAt.reparts {w w':World}{B g:Nat}{s:TB}{vb1 vs1 vb2 vs2 vk vp x:Value}{ps:List L}{a:Nat}(h:TBAt w B g s vb1 vs1 vb2 vs2 vk vp)(hk:KeptBut w w' (fun k=>k=g∨vp.ownBlock=some k))(ho:OwnS w' B x ps)(hm:Mv w vp x)
  (hb:Blk w' g 159 (tbC { s with parts:=ps,at_:=a } vb1 vs1 vb2 vs2 vk x)):TBAt w' B g { s with parts:=ps,at_:=a } vb1 vs1 vb2 vs2 vk x:=by
 have k:∀ {e v n xs},w.ownsRow B e 1 v n xs→e≠159→e≠9→w'.ownsRow B e 1 v n xs:=fun h' he hs=>own_kept h' hk (fun k hk e=>by
  rcases e with e | e
  ·exact own_blk_ne h' h.blk he (by rw[hk,e])
  ·exact own_types h' h.op hs k hk e)
 refine⟨h.hB,hb,k h.o1 (by decide) (by decide),k h.p1 (by decide) (by decide),k h.o2 (by decide) (by decide),k h.p2 (by decide) (by decide),own_kept h.ok hk (fun k hk e=>?_),ho,h.nb,h.ns,fun k hk e=>?_⟩
 ·rcases e with e | e
  ·exact own_blk_ne h.ok h.blk (by decide) (by rw[hk,e])
  ·exact h.np k hk e
 ·rcases hm k e with e1 | e1
  ·exact h.np k hk e1
  ·have:=(own_lt h.ok k hk).2;omega
theorem parts_facts {w w2:World}{B g n cp:Nat}{s:TB}{vb1 vs1 vb2 vs2 vk:Value}{Ap:Option Addr}{o:Obj}(h:TBAt w B g s vb1 vs1 vb2 vs2 vk (.slice Ap n cp))(hg:(w.alloc o).grownBy w2 (Value.slice Ap n cp).ownBlock) :
  KeptBut w w2 (fun k=>(Value.slice Ap n cp).ownBlock=some k)∧Blk w2 g 159 (tbC s vb1 vs1 vb2 vs2 vk (.slice Ap n cp))∧w2.cell? ⟨g,18,none⟩=some (.slice Ap n cp)∧w2.frozen? ⟨g,18,none⟩=false∧w2.cell? ⟨g,19,none⟩=some (.int .i64 (s.at_:Nat))∧w2.frozen? ⟨g,19,none⟩=false∧g<w2.heap.size:=by
 have hk2:KeptBut w w2 (fun k=>(Value.slice Ap n cp).ownBlock=some k):=(KeptBut.of_below ((Below.refl _ _).alloc (Nat.le_refl _) _)).then_grown hg (fun k e=>e)
 have hXw:=h.blk.keptB hk2 (own_blk_ne h.op h.blk (by decide));exact⟨hk2,hXw,hXw.cell 18,hXw.frozen 18,hXw.cell 19,hXw.frozen 19,hXw.lt⟩
set_option maxRecDepth 100000 in
set_option maxHeartbeats 4000000 in
theorem ends_any {w:World}{F:Nat→Prop}{g:Nat}{s:TB}(h:TBIn w F g s)(hd1:s.data.b.length≤1048576)(hd2:s.data.starts.length≤1048576)(hd3:∀n∈s.data.starts,n<4294967296)(hd4:s.data.count≤1048576)
  (hi1:s.index.b.length≤274877906944) (hi2:s.index.starts.length≤1073741824) (hi3:s.index.count≤1073741824) (hi4:s.index.last.length≤1048576) (hat:s.at_≤4398046511104) (hpl:s.parts.length≤1073741824) :
  Calls Tryz.prog 107 #[.pointer (some ⟨g,0,none⟩)] w fun e w'=>e=.returned (.string (bs s.data.out))∧TBIn w' (Fx F w w') g s.ends∧KeptBut w w' F:=by
 obtain⟨vb1,vs1,vb2,vs2,vk,vp,hT,hF⟩:=h;obtain⟨i0,hi0,hz0,hz1,hz2⟩:=info_parts string_info;have hfin:=Lib.hid (BFinish_any hT.data (Nat.zero_le _) (by omega) (by omega) hd3 (by omega))
 have hol:s.data.out.length≤5242888:=by rw[BB.out_len];unfold BB.size;omega
 have hos:(bs s.data.out).size=s.data.out.length:=bs_size _;have hgl:=hT.blk.lt
 go_enter Tryz.func107,Tryz.ntmps107
 go_wp2_with fail
 refine hfin.out.mono ?_;rintro e w1 ⟨rfl,hD1,hk1⟩;have hT1:=hT.of_data hD1 hk1 (Mv.nil _ _) (Mv.nil _ _);have hF1:KeptBut w w1 F:=hk1.mono (fun k _ e=>hF k (e.elim .inl (fun e=>e.elim (fun e=>.inr (.inl e)) (fun e=>.inr (.inr (.inl e))))));have hzk1:=hk1.size;have hl1:=hT1.blk.lt;have c16:w1.cell? ⟨g,16,none⟩=some (.string (bs s.last)):=hT1.blk.cell 16;have c19:w1.cell? ⟨g,19,none⟩=some (.int .i64 (s.at_:Nat)):=hT1.blk.cell 19
 have hw1:IntKind.u64.wrap ((s.at_:Nat):Int)=(s.at_:Nat):=by rw[IntKind.wrap_u64];omega
 have hw2:IntKind.u64.wrap ((s.data.out.length:Nat):Int)=(s.data.out.length:Nat):=by rw[IntKind.wrap_u64];omega
 replace hT1:=Lib.hid hT1;replace hD1:=Lib.hid hD1;replace hF1:=Lib.hid hF1;go_wp2_with fail
 have hxc:=@Ext.cell;have hxf:=@Ext.frozen;refine wp_hide (fun Q0 hQ0=>?_);refine wp_region_line (fun w'=>∃x:Ext _,w'=x.w) [some false,some false,some false,some false,some false,some false,some false,some false,some false,some false,some false,some false,some false,some false,some false,none,none,none] 2 (by kernel_rfl) (by kernel_rfl) ⟨⟨_,(Below.refl _ _).drew⟩,rfl⟩ ?_;simp only[earlyL,tailL]
 repeat (first | ((with_reducible refine wpMix_p ?_);go_big_quiet_step (fail);refine wpQuiet_nil ?_) | ((with_reducible refine wpMix_e ?_);go_big_quiet_step ((first | fail));refine wpQuiet_nil ?_))
 refine wpMix_nil ?_;clear hxc hxf;intro wx hwx;obtain⟨x,hx⟩:=hwx;have hb:=x.below;rw[←hx] at hb;clear hx x;have hbs:=hb.size;have hTx:=hT1.out.below hb;have hBn:=Blk.new wx 34 #[.int .u64 (s.at_:Nat),.int .u64 (s.data.out.length:Nat)];have hba:Below w1.heap.size w1 (wx.alloc (.cells #[.int .u64 (s.at_:Nat),.int .u64 (s.data.out.length:Nat)] 34)):=hb.alloc hbs _;have hvar:=Lib.hid (Var_two wx.heap.size s.at_ s.data.out.length (wx.alloc (.cells #[.int .u64 (s.at_:Nat),.int .u64 (s.data.out.length:Nat)] 34)) (hBn.cell 0) (hBn.cell 1) (by omega) (by omega));refine wpTail_step ?_;intro Q1 hQ1;go_wp2_with fail
 refine hQ1 _ _ rfl (fun _=>⟨⟨_,hba⟩,rfl⟩) ?_;clear hQ1 Q1;refine wpTail_step ?_;intro Q1 hQ1;go_wp2_with fail
 refine hvar.out.mono ?_;rintro e w3 ⟨rfl,hb3⟩;have hb13:=hba.trans (hb3.mono hba.size);go_wp2_with fail
 refine hQ1 _ _ rfl (fun _=>⟨⟨_,hb13⟩,rfl⟩) ?_;clear hQ1 Q1;have hT3:=hT1.out.below hb13;have hadd:=BAdd_all hT3.index (bs s.last) (bs (varL [s.at_,s.data.out.length])) (Nat.zero_le _) (by show s.index.b.length≤_;omega) (by show s.index.starts.length≤_;omega) (by show s.index.count≤_;omega) (by show s.index.last.length≤_;omega);rw[bs_data,bs_data] at hadd;replace hadd:=Lib.hid hadd;replace hT3:=Lib.hid hT3;refine wpTail_step ?_;intro Q1 hQ1;go_wp2_with fail
 refine hadd.out.mono ?_;rintro e w4 ⟨rfl,x2,y2,hI4,hk4,hx2,hy2⟩;go_wp2_with fail
 refine hQ1 _ _ rfl (fun h=>absurd h (by decide)) ?_;clear hQ1 Q1;refine wpTail_nil ?_;refine hQ0 _ _ ?_;clear hQ0 Q0;have hT4:=hT3.out.of_index hI4 hk4 hx2 hy2;have hz13:=hb13.size
 have hF4:KeptBut w w4 F:=(hF1.out.then_below hb13).trans hk4 (fun k _ e=>hF k (e.elim .inl (fun e=>e.elim (fun e=>.inr (.inr (.inr (.inl e)))) (fun e=>.inr (.inr (.inr (.inr (.inl e))))))))
 obtain⟨Ap,cp,rfl⟩:=hT.op.form;have c18:w4.cell? ⟨g,18,none⟩=some (.slice Ap s.parts.length cp):=hT4.blk.cell 18;have hl4:=hT4.blk.lt;have hownx:=World.ownsRow.alloc hT4.op (.cells #[.string (bs s.data.out)] 9);have hrd:=new_str w4 (bs s.data.out) 9
 have hone:∀u∈[Value.string (bs s.data.out)],u.oneCell'=true:=by
  intro u hu;simp at hu;subst hu;rfl
 replace hone:=Lib.hid hone;replace hF4:=Lib.hid hF4;replace hI4:=Lib.hid hI4;clear hadd hvar
 go_wp2_with (at_builtin;refine wpList_append_any _ rfl (.tmp 30) (.tmp 32) 38 rfl 0 9 i0 (.string ⟨#[]⟩) 1 16 Tryz.underlying38 hi0 hz0 hz1 hz2 rfl (by omega) (.slice Ap s.parts.length cp) s.parts.length (s.parts.map strV) rfl hownx (w4.heap.size+1) (some ⟨w4.heap.size,0,none⟩) 1 1 [.string (bs s.data.out)] rfl hrd hone.out (by unfold maxLen;omega) (by omega) (Nat.zero_le _) ?_;intro v5 w5 hown5 hgr5 hat5;have ho5:=OwnS.of_law hown5;obtain⟨A5,c5,e5⟩:=ho5.form;rw[List.length_append,List.length_singleton] at e5;subst e5;obtain⟨hk5,hB5,y18,f18,y19,f19,l5⟩:=parts_facts hT4 hgr5)
 have hmv:Mv w4 (.slice Ap s.parts.length cp) (.slice A5 (s.parts.length+1) c5):=by
  intro k hk;rcases hat5 with e | e
  ·exact .inl (by rw[←e];exact hk)
  ·have e6:=Option.some.inj (hk.symm.trans e);rw[World.size_alloc] at e6;exact .inr (by omega)
 have hBf:=(hB5.set_ 18 (.slice A5 (s.parts.length+1) c5)).set_ 19 (.int .i64 ((s.at_:Nat)+(s.data.out.length:Nat)));have hof:=own_set (own_set ho5 hB5 (by decide) (o:=18) (u:=.slice A5 (s.parts.length+1) c5)) (hB5.set_ 18 (.slice A5 (s.parts.length+1) c5)) (by decide) (o:=19) (u:=.int .i64 ((s.at_:Nat)+(s.data.out.length:Nat)))
 have hkf:KeptBut w4 ((w5.setCell ⟨g,18,none⟩ (.slice A5 (s.parts.length+1) c5)).setCell ⟨g,19,none⟩ (.int .i64 ((s.at_:Nat)+(s.data.out.length:Nat)))) (fun k=>k=g∨(Value.slice Ap s.parts.length cp).ownBlock=some k):=((hk5.mono (fun k _ e=>.inr e)).then_set (.inl rfl)).then_set (.inl rfl)
 have hTf:=hT4.reparts (a:=s.at_+s.data.out.length) hkf hof hmv hBf;have hFf:=hF4.out.trans hkf (fun k _ e=>hF k (e.elim .inl (fun e=>.inr (.inr (.inr (.inr (.inr (.inr e))))))))
 have hin:TBIn ((w5.setCell ⟨g,18,none⟩ (.slice A5 (s.parts.length+1) c5)).setCell ⟨g,19,none⟩ (.int .i64 ((s.at_:Nat)+(s.data.out.length:Nat)))) (Fx F w ((w5.setCell ⟨g,18,none⟩ (.slice A5 (s.parts.length+1) c5)).setCell ⟨g,19,none⟩ (.int .i64 ((s.at_:Nat)+(s.data.out.length:Nat))))) g s.ends:=by
  refine⟨_,_,_,_,_,_,hTf,fun k hk=>?_⟩
  have hsz3:w.heap.size≤w3.heap.size:=by omega
  have hsz4:=hk4.size;rcases hk with e | e | e | e | e | e | e
  ·exact .inl (hF k (.inl e))
  ·cases e
  ·cases e
  ·rcases hx2 k e with e1 | e1
   ·exact .inl (hF k (.inr (.inr (.inr (.inl e1)))))
   ·exact .inr (by omega)
  ·rcases hy2 k e with e1 | e1
   ·exact .inl (hF k (.inr (.inr (.inr (.inr (.inl e1))))))
   ·exact .inr (by omega)
  ·exact .inl (hF k (.inr (.inr (.inr (.inr (.inr (.inl e)))))))
  ·rcases hmv k e with e1 | e1
   ·exact .inl (hF k (.inr (.inr (.inr (.inr (.inr (.inr e1)))))))
   ·exact .inr (by omega)
 replace hin:=Lib.hid hin;replace hFf:=Lib.hid hFf;clear hown5 hgr5 hat5 hownx hrd hTf hkf hof hBf hB5 hk5 ho5;go_wp2_with fail
 go_ret
 exact⟨rfl,hin.out,hFf.out⟩
theorem TBAt.reblk {w w':World}{B g:Nat}{s s':TB}{vb1 vs1 vb2 vs2 vk vp:Value}(h:TBAt w B g s vb1 vs1 vb2 vs2 vk vp)(hk:KeptBut w w' (fun k=>k=g))(hb:Blk w' g 159 (tbC s' vb1 vs1 vb2 vs2 vk vp))
  (hd:s'.data=s.data) (hi:s'.index=s.index) (hks:s'.keys=s.keys) (hp:s'.parts=s.parts):TBAt w' B g s' vb1 vs1 vb2 vs2 vk vp:=by
 have k:∀ {e v n xs},w.ownsRow B e 1 v n xs→e≠159→w'.ownsRow B e 1 v n xs:=fun h' he=>own_kept h' hk (fun k hk e=>own_blk_ne h' h.blk he (by rw[hk,e]));refine⟨h.hB,hb,?_,?_,?_,?_,?_,?_,h.nb,h.ns,h.np⟩
 ·rw[hd];exact k h.o1 (by decide)
 ·rw[hd];exact k h.p1 (by decide)
 ·rw[hi];exact k h.o2 (by decide)
 ·rw[hi];exact k h.p2 (by decide)
 ·rw[hks];exact k h.ok (by decide)
 ·rw[hp];exact k h.op (by decide)
theorem TBAt.rekeys {w w':World}{B g:Nat}{s:TB}{vb1 vs1 vb2 vs2 vk vp x:Value}{ks:List L}(h:TBAt w B g s vb1 vs1 vb2 vs2 vk vp)(hk:KeptBut w w' (fun k=>k=g∨vk.ownBlock=some k))(ho:OwnS w' B x ks)(hm:Mv w vk x)
  (hb:Blk w' g 159 (tbC { s with keys:=ks } vb1 vs1 vb2 vs2 x vp)):TBAt w' B g { s with keys:=ks } vb1 vs1 vb2 vs2 x vp:=by
 have k:∀ {e v n xs},w.ownsRow B e 1 v n xs→e≠159→e≠9→w'.ownsRow B e 1 v n xs:=fun h' he hs=>own_kept h' hk (fun k hk e=>by
  rcases e with e | e
  ·exact own_blk_ne h' h.blk he (by rw[hk,e])
  ·exact own_types h' h.ok hs k hk e)
 refine⟨h.hB,hb,k h.o1 (by decide) (by decide),k h.p1 (by decide) (by decide),k h.o2 (by decide) (by decide),k h.p2 (by decide) (by decide),ho,own_kept h.op hk (fun k hk e=>?_),h.nb,h.ns,fun k hk e=>?_⟩
 ·rcases e with e | e
  ·exact own_blk_ne h.op h.blk (by decide) (by rw[hk,e])
  ·exact h.np k e hk
 ·rcases hm k hk with e1 | e1
  ·exact h.np k e1 e
  ·have:=(own_lt h.op k e).2;omega
theorem keys_facts {w w2:World}{B g n cp:Nat}{s:TB}{vb1 vs1 vb2 vs2 vp:Value}{Ap:Option Addr}{o:Obj}(h:TBAt w B g s vb1 vs1 vb2 vs2 (.slice Ap n cp) vp)(hg:(w.alloc o).grownBy w2 (Value.slice Ap n cp).ownBlock) :
  KeptBut w w2 (fun k=>(Value.slice Ap n cp).ownBlock=some k)∧Blk w2 g 159 (tbC s vb1 vs1 vb2 vs2 (.slice Ap n cp) vp)∧w2.cell? ⟨g,17,none⟩=some (.slice Ap n cp)∧w2.frozen? ⟨g,17,none⟩=false∧g<w2.heap.size:=by
 have hk2:KeptBut w w2 (fun k=>(Value.slice Ap n cp).ownBlock=some k):=(KeptBut.of_below ((Below.refl _ _).alloc (Nat.le_refl _) _)).then_grown hg (fun k e=>e)
 have hXw:=h.blk.keptB hk2 (own_blk_ne h.ok h.blk (by decide));exact⟨hk2,hXw,hXw.cell 17,hXw.frozen 17,hXw.lt⟩
def st16 (s:TB)(e:Ent)(vb1 vs1 vb2 vs2 vk vp:Value)(a b c:Bool):Array Value :=
 tbC { s with t:={ s.t with first:=if a then e.key else s.t.first,least:=if b then e.seq else s.t.least,most:=if c then e.seq else s.t.most } } vb1 vs1 vb2 vs2 vk vp
def st19 (s:TB)(e:Ent)(vb1 vs1 vb2 vs2 vk vp:Value)(a b c d:Bool):Array Value :=
 tbC { s with t:={ s.t with count:=if a then s.t.count+1 else s.t.count,last:=if b then e.key else s.t.last,least:=if c then min s.t.least e.seq else s.t.least,most:=if d then max s.t.most e.seq else s.t.most } } vb1 vs1 vb2 vs2 vk vp
section
variable {s:TB}{e:Ent}{vb1 vs1 vb2 vs2 vk vp:Value}{a b c d:Bool}
theorem st16_4:(st16 s e vb1 vs1 vb2 vs2 vk vp a b c).setIfInBounds 4 (.string (bs e.key))=st16 s e vb1 vs1 vb2 vs2 vk vp true b c:=by cases a<;>cases b<;>cases c<;>rfl
theorem st16_6:(st16 s e vb1 vs1 vb2 vs2 vk vp a b c).setIfInBounds 6 (.int .u64 (e.seq:Nat))=st16 s e vb1 vs1 vb2 vs2 vk vp a true c:=by cases a<;>cases b<;>cases c<;>rfl
theorem st16_7:(st16 s e vb1 vs1 vb2 vs2 vk vp a b c).setIfInBounds 7 (.int .u64 (e.seq:Nat))=st16 s e vb1 vs1 vb2 vs2 vk vp a b true:=by cases a<;>cases b<;>cases c<;>rfl
theorem st19_2:(st19 s e vb1 vs1 vb2 vs2 vk vp a b c d).setIfInBounds 2 (.int .i64 ((s.t.count+1:Nat):Int))=st19 s e vb1 vs1 vb2 vs2 vk vp true b c d:=by cases a<;>cases b<;>cases c<;>cases d<;>rfl
theorem st19_5:(st19 s e vb1 vs1 vb2 vs2 vk vp a b c d).setIfInBounds 5 (.string (bs e.key))=st19 s e vb1 vs1 vb2 vs2 vk vp a true c d:=by cases a<;>cases b<;>cases c<;>cases d<;>rfl
theorem st19_6:(st19 s e vb1 vs1 vb2 vs2 vk vp a b c d).setIfInBounds 6 (.int .u64 ((min s.t.least e.seq:Nat):Int))=st19 s e vb1 vs1 vb2 vs2 vk vp a b true d:=by cases a<;>cases b<;>cases c<;>cases d<;>rfl
theorem st19_7:(st19 s e vb1 vs1 vb2 vs2 vk vp a b c d).setIfInBounds 7 (.int .u64 ((max s.t.most e.seq:Nat):Int))=st19 s e vb1 vs1 vb2 vs2 vk vp a b c true:=by cases a<;>cases b<;>cases c<;>cases d<;>rfl
theorem st19_c:(st19 s e vb1 vs1 vb2 vs2 vk vp false b c d)[2]? = some (.int .i64 (s.t.count:Nat)):=by cases b<;>cases c<;>cases d<;>rfl
theorem st19_l:(st19 s e vb1 vs1 vb2 vs2 vk vp a b false d)[6]? = some (.int .u64 (s.t.least:Nat)):=by cases a<;>cases b<;>cases d<;>rfl
theorem st19_m:(st19 s e vb1 vs1 vb2 vs2 vk vp a b c false)[7]? = some (.int .u64 (s.t.most:Nat)):=by cases a<;>cases b<;>cases c<;>rfl
theorem some_of {cs:Array Value}{i:Nat}(h:i<cs.size):∃v,cs[i]? = some v:=⟨cs[i],Array.getElem?_eq_getElem h⟩
theorem st16_sz:(st16 s e vb1 vs1 vb2 vs2 vk vp a b c).size=21:=rfl
theorem st19_sz:(st19 s e vb1 vs1 vb2 vs2 vk vp a b c d).size=21:=rfl
end
def JT (w1:World)(g:Nat)(cs:Array Value)(w:World):Prop:=Blk w g 159 cs∧KeptBut w1 w (fun k=>k=g)
theorem JT.set {w1 w:World}{g:Nat}{cs cs':Array Value}{i:Nat}{v:Value}(h:JT w1 g cs w)(he:cs.setIfInBounds i v=cs'):JT w1 g cs' (w.setCell ⟨g,i,none⟩ v) :=
 ⟨he ▸ h.1.set_ i v,h.2.then_set rfl⟩
theorem BB.add_bd (s:BB)(k v:L){N:Nat}(h1:s.b.length≤N)(h2:s.starts.length≤N)(h3:∀n∈s.starts,n≤N)(h4:s.count≤N):(s.add k v).b.length≤N+(k.length+v.length+27)∧(s.add k v).starts.length≤N+1∧(∀n∈(s.add k v).starts,n≤N)∧(s.add k v).count≤N+1:=by
 unfold BB.add;split
 ·unfold BB.put;have:=s.enc_len k v;refine⟨by simp;omega,?_,?_,by simp;omega⟩
  ·simp only[];split
   ·simp;omega
   ·omega
  ·simp only[];intro n hn
   split at hn
   ·rcases List.mem_append.1 hn with hn | hn
    ·exact h3 n hn
    ·simp at hn;omega
   ·exact h3 n hn
 ·exact⟨by omega,by omega,h3,by omega⟩
theorem rowV_len (e:Ent):(rowV e).length=e.value.length+1:=by unfold rowV;simp
def usT (l:List Value):Nat→Value:=fun k=>l.getD k undef
end Go.Proofs.YtlpojfgeocpkeaaGreatDoor
