/- strings.Builder whose row is known by name: WriteString, String. Contracts: okey: Str, Num, Key of one text, readText. Contracts: okey: readText. block.Builder in memory; shared. Contracts: okey: Parts. Contracts: table: Internal, big, entry. block.Builder: Add. -/
import Derived.Test.YtlpojfgeocpkeaaGreatDoorV11
import Derived.Test.YtlpojfgeocpkeaaGreatDoorV03
import Derived.Test.YtlpojfgeocpkeaaGreatDoorV14
import Derived.Test.YtlpojfgeocpkeaaGreatDoorTCrcJ
import Derived.Test.YtlpojfgeocpkeaaGreatDoorV01
import Derived.Test.YtlpojfgeocpkeaaGreatDoorV00
import Derived.Lib.Hide
namespace Go.Proofs.YtlpojfgeocpkeaaGreatDoor
open Go.RowKit
set_option linter.unusedVariables false
set_option linter.unusedSimpArgs false
def Mv (w:World)(v v':Value):Prop:=∀k,v'.ownBlock=some k→v.ownBlock=some k∨w.heap.size≤k
theorem Mv.nil (w:World)(v:Value):Mv w v (.slice none 0 0):=fun k h=>by cases h
theorem Mv.refl (w:World)(v:Value):Mv w v v:=fun k h=>.inl h
structure Gl (w:World):Prop where
 tab:TabAt w
 mx:∃m,w.cell? ⟨4,0,none⟩=some (.int .i64 m)
theorem Gl.lt {w:World}(h:Gl w):4<w.heap.size:=by
 obtain⟨m,hm⟩:=h.mx;exact cell_lt hm
theorem Gl.below {w w':World}{B:Nat}(h:Gl w)(hb:Below B w w')(hB:4<B):Gl w' :=
 ⟨h.tab.below hb (by omega),h.mx.imp fun m hm=>(hb.cell (p:=⟨4,0,none⟩) hB).trans hm⟩
theorem Gl.kept {w w':World}{S:Nat→Prop}(h:Gl w)(hk:KeptBut w w' S)(h0:¬S 1)(h1:¬S 4):Gl w' :=
 ⟨fun i hi=>(hk.cell ⟨1,i,none⟩ (by have:=h.lt;show 1<w.heap.size;omega) h0).trans (h.tab i hi),h.mx.imp fun m hm=>(hk.cell ⟨4,0,none⟩ h.lt h1).trans hm⟩
def partV (b:Bool)(s:ByteArray)(n:Nat):Value:=.agg #[.bool b,.string s,.int .u64 (n:Nat)]
set_option maxRecDepth 100000 in
set_option maxHeartbeats 4000000 in
theorem Str_any (s:ByteArray)(w:World) :
  Calls Tryz.prog 143 #[.string s] w fun e w'=>e=.returned (partV true s 0)∧Below w.heap.size w w':=by
 go_enter Tryz.func143,Tryz.ntmps143
 go_wp2_with fail
 exact bodyPost_ret (v:=partV true s 0) (results_cell_row rfl _ _ w.heap.size 188 #[.bool true,.string s,.int .u64 0] (0,0) _ rfl (heap_alloc_new w _) Tryz.underlying188 rfl (by kernel_rfl)) rfl ⟨rfl,(Below.refl _ _).alloc (Nat.le_refl _) _⟩
theorem repl_data (s:ByteArray):(⟨(Lib.replaceAll s.data.toList (⟨#[0]⟩:ByteArray).data.toList (⟨#[0,255]⟩:ByteArray).data.toList).toArray⟩:ByteArray)=bs (escL s.data.toList):=by
 rw[show (⟨#[0]⟩:ByteArray).data.toList=[0] from rfl,show (⟨#[0,255]⟩:ByteArray).data.toList=[0,255] from rfl,repl_esc];rfl
set_option maxRecDepth 100000 in
set_option maxHeartbeats 4000000 in
theorem KeyS_any (b:Nat)(s:ByteArray)(w:World)(hG:Gl w)(hc0:w.cell? ⟨b,0,none⟩=some (.bool true))(hc1:w.cell? ⟨b,1,none⟩=some (.string s))(hc2:w.cell? ⟨b,2,none⟩=some (.int .u64 0))(hs:s.size≤1073741824) :
  Calls Tryz.prog 142 #[.slice (some ⟨b,0,none⟩) 1 1] w fun e w'=>e=.returned (.string (bs (strKey s.data.toList)))∧Below w.heap.size w w':=by
 have hbl:=cell_lt hc0;obtain⟨mx,hmx⟩:=hG.mx;have h1l:=cell_lt hmx;have hec:=escL_len s.data.toList;rw[dlen] at hec
 have hcnt:Lib.count s.data.toList [0]≤s.size:=by have:=(esc_repl s.data.toList).2;rwa [dlen] at this
 go_enter Tryz.func142,Tryz.ntmps142
 go_wp2_with fail
 go_loopw [8] (fun i wr=>(i=.int .i64 0∧IsB w.heap.size w.heap.size [] wr∨i=.int .i64 1∧IsB w.heap.size w.heap.size (strKey s.data.toList) wr)∧Below w.heap.size w wr) (fun i _=>(1-intOf i).toNat)
 case atStart=>exact⟨.inl ⟨rfl,IsB.new w⟩,(Below.refl _ _).alloc (Nat.le_refl _) _⟩
 case round =>
  obtain⟨⟨rfl,ho⟩ | ⟨rfl,ho⟩,hbr⟩:=hrel
  ·have q0:=(hbr.cell (p:=⟨b,0,none⟩) hbl).trans hc0;have q1:=(hbr.cell (p:=⟨b,1,none⟩) hbl).trans hc1;have q2:=(hbr.cell (p:=⟨b,2,none⟩) hbl).trans hc2;have hmr:=(hbr.cell (p:=⟨4,0,none⟩) h1l).trans hmx;have hzr:=hbr.size;have hob:=ho.lt;go_wp2_with fail
   have hm2:(wr.alloc (.cells #[.bool true,.string s,.int .u64 0] 188)).cell? ⟨4,0,none⟩=some (.int .i64 mx):=by
    rw[World.cell?_alloc_lt wr _ ⟨4,0,none⟩ (by show 4<wr.heap.size;omega)];exact hmr
   refine (Tryz.strings_ReplaceAll s ⟨#[0]⟩ ⟨#[0,255]⟩ mx _ (by omega) hm2 (by decide) (by show s.size+Lib.count s.data.toList [0]*2≤_;omega)).mono ?_;rintro e w1 ⟨rfl,hb1⟩;rw[repl_data];have hbw1:Below w.heap.size w w1:=(hbr.alloc (by omega) _).trans (hb1.mono (by rw[World.size_alloc];omega));have ho1:IsB w.heap.size w.heap.size [] w1:=ho.below (((Below.refl _ _).alloc (Nat.le_refl _) _).trans (hb1.mono (by rw[World.size_alloc];omega)));have hes:=bs_size (escL s.data.toList)
   have k1:1+(bs (escL s.data.toList)).size≤9223372036854775807:=by omega
   have k2:1+(bs (escL s.data.toList)).size+2≤9223372036854775807:=by omega
   have hsz:(((⟨#[2]⟩:ByteArray)++bs (escL s.data.toList))++⟨#[0,1]⟩).size=1+(escL s.data.toList).length+2:=by rw[ByteArray.size_append,ByteArray.size_append,hes];rfl
   have hda:(((⟨#[2]⟩:ByteArray)++bs (escL s.data.toList))++⟨#[0,1]⟩).data.toList=strKey s.data.toList:=by simp[strKey,bs]
   replace hda:=Lib.hid hda;go_wp2_with fail
   refine (write_any w.heap.size w.heap.size [] _ _ ho1 (by rw[hsz];show 0+_≤_;omega) hbw1.size).mono ?_;rintro e w2 ⟨rfl,ho2,hb2⟩;rw[hda.out] at ho2;go_wp2_with fail
   exact⟨⟨.inr ⟨by rfl,ho2⟩,hbw1.trans hb2⟩,by decide⟩
  ·go_wp2_with fail
   refine (Tryz.Builder_String_any w.heap.size w.heap.size _ _ ho hbr.size).mono ?_;rintro e w1 ⟨rfl,hb1⟩;go_wp2_with fail
   go_ret
   exact⟨rfl,hbr.trans hb1⟩
def OwnW (w:World)(B:Nat)(v:Value)(l:List Nat):Prop:=w.ownsRow B 34 1 v l.length (l.map fun n=>Value.int .u64 (n:Nat))
structure BBAt (w:World)(B g t off:Nat)(cs:Array Value)(s:BB)(vb vs:Value):Prop where
 hB:B≤g
 blk:Blk w g t cs
 e0:cs[off]? = some vb
 e1:cs[off+1]? = some vs
 e2:cs[off+2]? = some (.int .i64 s.count)
 e3:cs[off+3]? = some (.string (bs s.last))
 ob:OwnB w B vb s.b
 os:OwnW w B vs s.starts
 tb:t≠5
 tw:t≠34
def setBB (cs:Array Value)(off:Nat)(vb vs:Value)(s:BB):Array Value:=(((cs.setIfInBounds off vb).setIfInBounds (off+1) vs).setIfInBounds (off+2) (.int .i64 s.count)).setIfInBounds (off+3) (.string (bs s.last))
def BS (g:Nat)(vb vs:Value):Nat→Prop:=fun k=>k=g∨vb.ownBlock=some k∨vs.ownBlock=some k
def Moved (w:World)(v v':Value):Prop:=v'.ownBlock=v.ownBlock∨∃k,v'.ownBlock=some k∧w.heap.size≤k
theorem BBAt.gb {w:World}{B g t off:Nat}{cs:Array Value}{s:BB}{vb vs:Value}(h:BBAt w B g t off cs s vb vs):vb.ownBlock≠some g:=own_blk_ne h.ob h.blk (fun e=>h.tb e.symm)
theorem BBAt.gs {w:World}{B g t off:Nat}{cs:Array Value}{s:BB}{vb vs:Value}(h:BBAt w B g t off cs s vb vs):vs.ownBlock≠some g:=own_blk_ne h.os h.blk (fun e=>h.tw e.symm)
theorem own_types {w:World}{B B' e e' m m' n n':Nat}{v v':Value}{xs xs':List Value}(h:w.ownsRow B e m v n xs)(h':w.ownsRow B' e' m' v' n' xs')(hne:e≠e'):∀k,v.ownBlock=some k→v'.ownBlock≠some k:=by
 intro k hk;rcases h.2 with⟨rfl,_⟩ | ⟨g,cap,cur,rfl,hg,hh,_⟩
 ·simp[Value.ownBlock] at hk
 ·simp only[Value.ownBlock,Option.some.injEq] at hk;subst hk;exact own_blk_ne h' (t:=e) hh (fun e=>hne e.symm)
theorem BBAt.nbs {w:World}{B g t off:Nat}{cs:Array Value}{s:BB}{vb vs:Value}(h:BBAt w B g t off cs s vb vs):∀k,vb.ownBlock=some k→vs.ownBlock≠some k:=own_types h.ob h.os (by decide)
theorem BBAt.below {w w':World}{B g t off:Nat}{cs:Array Value}{s:BB}{vb vs:Value}(h:BBAt w B g t off cs s vb vs)(hb:Below w.heap.size w w'):BBAt w' B g t off cs s vb vs :=
 ⟨h.hB,h.blk.below hb h.blk.lt,h.e0,h.e1,h.e2,h.e3,own_block h.ob (fun k hk=>hb.block k (own_lt h.ob k hk).2),own_block h.os (fun k hk=>hb.block k (own_lt h.os k hk).2),h.tb,h.tw⟩
theorem Moved.refl (w:World)(v:Value):Moved w v v:=.inl rfl
theorem u8_beq (a b:UInt8):(((a.toNat:Nat):Int)==((b.toNat:Nat):Int))=decide (a=b):=by
 by_cases h:a=b
 ·subst h;simp
 ·have:¬((a.toNat:Nat):Int)=((b.toNat:Nat):Int):=fun h'=>h (UInt8.toNat_inj.1 (by omega));simp[this,h]
set_option maxRecDepth 100000 in
set_option maxHeartbeats 4000000 in
theorem shared_any (a b:ByteArray)(w:World)(ha:a.size≤1099511627776) :
  Calls Tryz.prog 144 #[.string a,.string b] w fun e w'=>e=.returned (.int .i64 (sharedL a.data.toList b.data.toList:Nat))∧Below w.heap.size w w':=by
 go_enter Tryz.func144,Tryz.ntmps144
 go_wp2_with fail
 go_loopw [5] (fun i wr=>∃k:Nat,i=.int .i64 k∧k≤a.size∧k≤b.size∧sharedL a.data.toList b.data.toList=k+sharedL (a.data.toList.drop k) (b.data.toList.drop k)∧Below w.heap.size w wr) (fun i _=>a.size-(intOf i).toNat)
 case atStart=>exact⟨0,rfl,Nat.zero_le _,Nat.zero_le _,by simp,Below.refl _ _⟩
 case round =>
  obtain⟨k,rfl,hka,hkb,hs,hbr⟩:=hrel;replace hs:=Lib.hid hs;replace hbr:=Lib.hid hbr
  by_cases h1:k<a.size
  ·have h1':(k:Int)<a.size:=by omega
   have la:k<a.data.toList.length:=by rw[Lib.size_eq] at h1;exact h1
   by_cases h2:k<b.size
   ·have h2':(k:Int)<b.size:=by omega
    have lb:k<b.data.toList.length:=by rw[Lib.size_eq] at h2;exact h2
    have ka:k<a.data.size:=h1;have kb:k<b.data.size:=h2;have ga:a[k]=a.data[k]:=rfl;have gb:b[k]=b.data[k]:=rfl
    have hsk:sharedL (a.data.toList.drop k) (b.data.toList.drop k)=if a.data[k]=b.data[k] then sharedL (a.data.toList.drop (k+1)) (b.data.toList.drop (k+1))+1 else 0:=by
     rw[List.drop_eq_getElem_cons la,List.drop_eq_getElem_cons lb];rfl
    replace hsk:=Lib.hid hsk;have hcc:=u8_beq a.data[k] b.data[k]
    by_cases he:a.data[k]=b.data[k]
    ·generalize a.data[k]=ca at *
     generalize b.data[k]=cb at *
     subst he;go_wp2_with fail
     go_region
     go_wp2_with fail
     refine⟨⟨k+1,by rfl,by omega,by omega,?_,hbr.out.drew⟩,by first | omega | (simp only[intOf];omega)⟩
     rw[hs.out,hsk.out];simp;omega
    ·generalize a.data[k]=ca at *
     generalize b.data[k]=cb at *
     have he2:¬((ca.toNat:Nat):Int)=((cb.toNat:Nat):Int):=fun h=>he (UInt8.toNat_inj.1 (by omega));go_wp2_with fail
     go_region
     go_wp2_with fail
     go_ret
     refine⟨?_,hbr.out.drew⟩;rw[hs.out,hsk.out,if_neg he];rfl
   ·obtain rfl:k=b.size:=by omega
    have h2':¬(b.size:Int)<b.size:=by omega
    go_wp2_with fail
    go_region
    go_wp2_with fail
    go_ret
    refine⟨?_,hbr.out.drew⟩;rw[hs.out,show b.data.toList.drop b.size=[] from List.drop_of_length_le (by rw[Lib.size_eq];exact Nat.le_refl _)]
    cases (a.data.toList.drop b.size)<;>rfl
  ·obtain rfl:k=a.size:=by omega
   have h1':¬(a.size:Int)<a.size:=by omega
   go_wp2_with fail
   go_region
   go_wp2_with fail
   go_ret
   refine⟨?_,hbr.out.drew⟩;rw[hs.out,show a.data.toList.drop a.size=[] from List.drop_of_length_le (by rw[Lib.size_eq];exact Nat.le_refl _)];rfl
theorem add_off (g off i:Nat):(⟨g,off,none⟩:Addr).add i=⟨g,off+i,none⟩:=by cases i<;>simp[Addr.add]
set_option maxRecDepth 100000 in
set_option maxHeartbeats 4000000 in
theorem BAdd_err {w:World}{B g t off:Nat}{cs:Array Value}{s:BB}{vb vs:Value}(h:BBAt w B g t off cs s vb vs)(k v:ByteArray)(he:s.err k.data.toList v.data.toList≠0) :
  Calls Tryz.prog 105 #[.pointer (some ⟨g,off,none⟩),.string k,.string v] w fun e w'=>e=.returned (.int .i64 (s.err k.data.toList v.data.toList:Nat))∧Below w.heap.size w w':=by
 have c2:=(h.blk.cell (off+2)).trans h.e2;have c3:=(h.blk.cell (off+3)).trans h.e3;have hlt:=h.blk.lt;have hlk:k.data.toList.length=k.size:=(Lib.size_eq k).symm;have hlv:v.data.toList.length=v.size:=(Lib.size_eq v).symm
 have hle:(Op.bytesLess k.toList (bs s.last).toList||k.toList==(bs s.last).toList)=!(lessL s.last k.data.toList):=by
  rw[bs_toList,ByteArray.toList_eq];exact less_tri _ _
 by_cases hlong:1024<k.size∨1024<v.size
 ·have hE:s.err k.data.toList v.data.toList=3:=by unfold BB.err;rw[hlk,hlv,if_pos hlong]
  rw[hE];clear hE he hle
  go_enter Tryz.func105,Tryz.ntmps105
  by_cases h1:1024<k.size
  ·have h1':(1024:Int)<k.size:=by omega
   go_wp2_with fail
   go_ret
   exact⟨rfl,Below.refl _ _⟩
  ·have h1':¬(1024:Int)<k.size:=by omega
   have h2':(1024:Int)<v.size:=by omega
   go_wp2_with fail
   go_ret
   exact⟨rfl,Below.refl _ _⟩
 ·have h1':¬(1024:Int)<k.size:=by omega
  have h2':¬(1024:Int)<v.size:=by omega
  have hE:s.err k.data.toList v.data.toList=1∧0<s.count∧lessL s.last k.data.toList=false:=by
   unfold BB.err at he ⊢;rw[hlk,hlv,if_neg hlong] at he ⊢
   split at he
   ·rename_i hh
    exact⟨by rw[if_pos hh],hh⟩
   ·exact absurd rfl he
  obtain⟨hE,hc,hl⟩:=hE;rw[hl] at hle
  have hc':(0:Int)<s.count:=by omega
  rw[hE];clear hE he hl hlong;replace hlk:=Lib.hid hlk;replace hlv:=Lib.hid hlv
  go_enter Tryz.func105,Tryz.ntmps105
  go_wp2_with fail
  go_ret
  exact⟨rfl,Below.refl _ _⟩
theorem u64_info:(Tryz.prog.info? 34).map (fun i=>(i.zero,i.size,i.bytes))=some (some (.int .u64 0),1,8):=by kernel_rfl
set_option maxRecDepth 100000 in
set_option maxHeartbeats 4000000 in
theorem big_any (n:Nat)(w:World)(hn:n<4294967296) :
  Calls Tryz.prog 128 #[.int .i64 (n:Nat)] w fun e w'=>e=.returned (.string (bs (bigL n 4)))∧Below w.heap.size w w':=by
 have hw1:IntKind.u64.wrap ((n:Nat):Int)=(n:Nat):=by rw[IntKind.wrap_u64];omega
 have hbg:=Lib.hid (Big_any n 4 w (by decide) (by decide) hn)
 go_enter Tryz.func128,Tryz.ntmps128
 go_wp2_with fail
 refine hbg.out.mono ?_;rintro e w1 ⟨rfl,hb1⟩;go_wp2_with fail
 go_ret
 exact⟨rfl,hb1⟩
set_option maxRecDepth 100000 in
set_option maxHeartbeats 4000000 in
theorem big_x (n:Nat)(w:World)(hn:n≤9223372036854775807) :
  Calls Tryz.prog 128 #[.int .i64 (n:Nat)] w fun e w'=>e=.returned (.string (bs (bigX n)))∧Below w.heap.size w w':=by
 have hw1:IntKind.u64.wrap ((n:Nat):Int)=(n:Nat):=by rw[IntKind.wrap_u64];omega
 have hbg:=Lib.hid (Big_x n w (by omega))
 go_enter Tryz.func128,Tryz.ntmps128
 go_wp2_with fail
 refine hbg.out.mono ?_;rintro e w1 ⟨rfl,hb1⟩;go_wp2_with fail
 go_ret
 exact⟨rfl,hb1⟩
theorem xor_max (x:Nat)(h:x<18446744073709551616):18446744073709551615 ^^^ x=18446744073709551615-x:=by
 have h':x<2 ^ 64:=h
 have e1:(18446744073709551615:Nat)=2 ^ 64-1:=by decide
 have e2:18446744073709551615-x=2 ^ 64-(x+1):=by omega
 rw[e2];apply Nat.eq_of_testBit_eq
 intro i;rw[Nat.testBit_two_pow_sub_succ h',Nat.testBit_xor,e1,Nat.testBit_two_pow_sub_one]
 by_cases hi:i<64
 ·simp[hi]
 ·have:x.testBit i=false:=Nat.testBit_lt_two_pow (Nat.lt_of_lt_of_le h' (Nat.pow_le_pow_right (by omega) (by omega)));simp[hi,this]
theorem not_u64 (x:Nat)(h:x<18446744073709551616):bits .xor .u64 (IntKind.u64.max:Int) ((x:Nat):Int)=((18446744073709551615-x:Nat):Int):=by
 have e:(IntKind.u64.max:Int)=((18446744073709551615:Nat):Int):=by decide
 rw[e,u64_xor_nat _ _ (by decide) h,xor_max x h]
set_option maxRecDepth 100000 in
set_option maxHeartbeats 400000 in
theorem Internal_any (key:ByteArray)(seq:Nat)(w:World)(hG:Gl w)(hk:key.size≤1048576)(hs:seq<18446744073709551616) :
  Calls Tryz.prog 104 #[.string key,.int .u64 (seq:Nat)] w fun e w'=>e=.returned (.string (bs (internalL key.data.toList seq)))∧Below w.heap.size w w':=by
 have hx:=not_u64 seq hs
 have hx2:18446744073709551615-seq<256 ^ 8:=by
  have:(256:Nat) ^ 8=18446744073709551616:=by decide
  omega
 have hI:internalL key.data.toList seq=strKey key.data.toList++bigL (18446744073709551615-seq) 8:=rfl;have hG1:=hG.lt;have hel:=escL_len key.data.toList;rw[dlen] at hel
 generalize 18446744073709551615-seq=q at *
 have hbg:=Lib.hid (Big_any q 8 w (by decide) (by decide) hx2)
 have hsl:(bs (strKey key.data.toList)).size=(escL key.data.toList).length+3:=by rw[bs_size];simp[strKey]
 have hql:(bs (bigL q 8)).size=8:=by rw[bs_size,bigL_len]
 replace hI:=Lib.hid hI;clear hx2
 go_enter Tryz.func104,Tryz.ntmps104
 go_wp2_with fail
 refine hbg.out.mono ?_;rintro e w1 ⟨rfl,hb1⟩;have hstr:=Lib.hid (show ∀w,Calls Tryz.prog 143 #[.string key] w (fun e w'=>e=.returned (.agg #[.bool true,.string key,.int .u64 0])∧Below w.heap.size w w') from fun w=>Str_any key w);go_wp2_with fail
 refine (hstr.out w1).mono ?_;rintro e w2 ⟨rfl,hb2⟩;have hb02:=hb1.trans (hb2.mono hb1.size);have hG2:=(hG.below hb02 hG1).below ((Below.refl _ _).alloc (Nat.le_refl _) (.cells #[.bool true,.string key,.int .u64 0] 188)) (by have:=hb02.size;omega);have hbk:=Blk.new w2 188 #[.bool true,.string key,.int .u64 0];have hkey:=Lib.hid (KeyS_any w2.heap.size key _ hG2 (hbk.cell 0) (hbk.cell 1) (hbk.cell 2) (by omega));go_wp2_with fail
 refine hkey.out.mono ?_;rintro e w3 ⟨rfl,hb3⟩;have hb03:=(hb02.alloc hb02.size (.cells #[.bool true,.string key,.int .u64 0] 188)).trans (hb3.mono (by rw[World.size_alloc];have:=hb02.size;omega));go_wp2_with fail
 go_ret
 refine⟨?_,hb03⟩;rw[hI.out,←bs_append];rfl
theorem OwnW.form {w:World}{B:Nat}{v:Value}{l:List Nat}(h:OwnW w B v l):∃A cap,v=.slice A l.length cap:=by
 rcases h.2 with⟨rfl,e⟩ | ⟨g,cap,cur,rfl,_⟩
 ·exact⟨none,0,by rw[e]⟩
 ·exact⟨_,cap,rfl⟩
theorem OwnW.of_law {w:World}{B n:Nat}{v:Value}{l:List Nat}{m:Nat}(h:w.ownsRow B 34 1 v n ((l.map fun n=>Value.int .u64 (n:Nat))++[.int .u64 (m:Nat)])):OwnW w B v (l++[m]):=by
 have hl:n=(l++[m]).length:=by have:=h.1;simp at this;simp;omega
 subst hl;unfold OwnW;rw[List.map_append];exact h
theorem Text_two (c:Nat)(a b:ByteArray)(w:World)(hb:c<w.heap.size)(h0:w.cell? ⟨c,0,none⟩=some (.string a))(h1:w.cell? ⟨c,1,none⟩=some (.string b))(ha:a.size≤1099511627776)(hbs:b.size≤1099511627776) :
  Calls Tryz.prog 146 #[.slice (some ⟨c,0,none⟩) 2 2] w fun e w'=>e=.returned (.string (bs (textL [a.data.toList,b.data.toList])))∧Below w.heap.size w w':=by
 have hl:(textL [a.data.toList,b.data.toList]).length≤4611686018427387904:=by
  have:=varL1_len a.data.toList.length;have:=varL1_len b.data.toList.length;simp only[textL,List.length_append,List.append_nil]
  rw[dlen,dlen] at *
  omega
 have h:=Text_any (some ⟨c,0,none⟩) [a,b] 2 w ⟨rfl,fun _=>⟨_,rfl,hb,fun j u hu=>by
  rcases j with _ | _ | j
  ·simp at hu;subst hu;exact h0
  ·simp at hu;subst hu;exact h1
  ·simp at hu⟩⟩ (by simp) (by simpa using hl)
 simpa using h
def JA (w1:World)(B g t off:Nat)(cs:Array Value)(vb:Value)(l:L):Bool→Bool→World→Prop
 | false,false,w=>Below w1.heap.size w1 w
 | true,false,w=>KeptBut w1 w (fun k=>vb.ownBlock=some k)
 | true,true,w=>∃v,OwnB w B v l∧Moved w1 vb v∧KeptBut w1 w (fun k=>k=g∨vb.ownBlock=some k)∧Blk w g t (cs.setIfInBounds off v)
 | false,true,_=>False
section
variable {w1:World}{B g t off:Nat}{cs:Array Value}{vb:Value}{l:L}{a b:Bool}{w:World}
theorem JA.ff (ha:a=false)(hb:b=false)(h:Below w1.heap.size w1 w):JA w1 B g t off cs vb l a b w:=by subst ha hb;exact h
theorem JA.of_ff (ha:a=false)(hb:b=false)(h:JA w1 B g t off cs vb l a b w):Below w1.heap.size w1 w:=by subst ha hb;exact h
theorem JA.tf (hb:b=false)(h:KeptBut w1 w (fun k=>vb.ownBlock=some k)):JA w1 B g t off cs vb l true b w:=by subst hb;exact h
theorem JA.tt (ha:a=true)(h:∃v,OwnB w B v l∧Moved w1 vb v∧KeptBut w1 w (fun k=>k=g∨vb.ownBlock=some k)∧Blk w g t (cs.setIfInBounds off v)):JA w1 B g t off cs vb l a true w:=by subst ha;exact h
theorem JA.of_tt (ha:a=true)(hb:b=true)(h:JA w1 B g t off cs vb l a b w):∃v,OwnB w B v l∧Moved w1 vb v∧KeptBut w1 w (fun k=>k=g∨vb.ownBlock=some k)∧Blk w g t (cs.setIfInBounds off v):=by subst ha hb;exact h
theorem JA.of_tf (hb:b=false)(h:JA w1 B g t off cs vb l true b w):KeptBut w1 w (fun k=>vb.ownBlock=some k):=by subst hb;exact h
end
theorem Moved.of_le {w w':World}{v v':Value}(h:Moved w' v v')(hz:w.heap.size≤w'.heap.size):Moved w v v':=h.imp id (fun ⟨k,e,hk⟩=>⟨k,e,Nat.le_trans hz hk⟩)
theorem Moved.of_at {w1 w w9:World}{B:Nat}{v v9:Value}{l:L}(h:∀k,v9.ownBlock=some k→v.ownBlock=some k∨k=w.heap.size)(hz:w1.heap.size≤w.heap.size)(ho:OwnB w9 B v9 l)(hv:v9.ownBlock=none→v.ownBlock=none):Moved w1 v v9:=by
 rcases hq:v9.ownBlock with _ | k
 ·exact .inl (hq.trans (hv hq).symm)
 ·rcases h k hq with e | e
  ·exact .inl (hq.trans e.symm)
  ·exact .inr ⟨k,hq,by omega⟩
theorem own_some {w:World}{B:Nat}{v:Value}{l:L}(h:OwnB w B v l)(h0:0<l.length):v.ownBlock≠none:=by
 rcases h.2 with⟨_,e⟩ | ⟨g,cap,cur,rfl,_⟩
 ·omega
 ·simp[Value.ownBlock]
theorem BB.enc_pos (s:BB)(k v:L):0<(s.enc k v).length:=by
 unfold BB.enc varL1;rw[List.length_append]
 split<;>simp<;>omega
theorem own_set {w:World}{B e n g t o:Nat}{v u:Value}{xs:List Value}{cs:Array Value}(h:w.ownsRow B e 1 v n xs)(hg:Blk w g t cs)(ht:t≠e):(w.setCell ⟨g,o,none⟩ u).ownsRow B e 1 v n xs :=
 own_kept h ((KeptBut.refl w (fun k=>k=g)).then_set rfl) (fun k hk e=>own_blk_ne h hg (fun e=>ht e.symm) (by rw[hk,e]))
theorem tauL_mono2 {vs:List (Option Value)}{Sp:Nat→Value→World→Prop}{w w':World}{i:Nat}(hs:∀k u,k≠i→Sp k u w→Sp k u w')(k:Nat)(u:Value)(hk:k≠i)(h:tauL vs Sp k u w):tauL vs Sp k u w':=by
 unfold tauL at *
 split at h<;>first | exact h | exact hs _ _ hk h
def SA (w1:World)(B n:Nat)(x y:ByteArray)(vb:Value)(l:L):Nat→Value→World→Prop
 | 7,v,w=>∃b,v=.slice (some ⟨b,0,none⟩) 1 1∧w1.heap.size≤b∧b<w.heap.size∧w.cell? ⟨b,0,none⟩=some (.int .u64 (n:Nat))
 | 13,v,w=>∃b,v=.slice (some ⟨b,0,none⟩) 2 2∧w1.heap.size≤b∧b<w.heap.size∧w.cell? ⟨b,0,none⟩=some (.string x)∧w.cell? ⟨b,1,none⟩=some (.string y)
 | 16,v,w=>OwnB w B v l∧Moved w1 vb v
 | _,_,_=>True
theorem SA.mono {w1:World}{B n:Nat}{x y:ByteArray}{vb:Value}{l:L}{w w':World}(hb:Below w.heap.size w w'):∀k u,SA w1 B n x y vb l k u w→SA w1 B n x y vb l k u w':=by
 intro k u h
 unfold SA at *
 split at h
 ·obtain⟨b,e,h1,h2,h3⟩:=h;exact⟨b,e,h1,by have:=hb.size;omega,(hb.cell (p:=⟨b,0,none⟩) h2).trans h3⟩
 ·obtain⟨b,e,h1,h2,h3,h4⟩:=h;exact⟨b,e,h1,by have:=hb.size;omega,(hb.cell (p:=⟨b,0,none⟩) h2).trans h3,(hb.cell (p:=⟨b,1,none⟩) h2).trans h4⟩
 ·exact⟨own_block h.1 (fun k hk=>hb.block k (own_lt h.1 k hk).2),h.2⟩
 ·trivial
theorem SA.mono2 {w1:World}{B n:Nat}{x y:ByteArray}{vb:Value}{l:L}{w w':World}{S:Nat→Prop}(hb:KeptBut w w' S)(hS:∀k,S k→k<w1.heap.size):∀k u,k≠16→SA w1 B n x y vb l k u w→SA w1 B n x y vb l k u w':=by
 intro k u hk h
 unfold SA at *
 split at h
 ·obtain⟨b,e,h1,h2,h3⟩:=h
  have hn:¬S b:=fun hs=>by have:=hS b hs;omega
  exact⟨b,e,h1,by have:=hb.size;omega,(hb.cell ⟨b,0,none⟩ h2 hn).trans h3⟩
 ·obtain⟨b,e,h1,h2,h3,h4⟩:=h
  have hn:¬S b:=fun hs=>by have:=hS b hs;omega
  exact⟨b,e,h1,by have:=hb.size;omega,(hb.cell ⟨b,0,none⟩ h2 hn).trans h3,(hb.cell ⟨b,1,none⟩ h2 hn).trans h4⟩
 ·exact absurd rfl hk
 ·trivial
theorem SA.mono3 {w1:World}{B n g t:Nat}{cs:Array Value}{x y:ByteArray}{vb u0:Value}{l:L}{w:World}{off:Nat}(hg:g<w1.heap.size)(hblk:Blk w g t cs)(ht:t≠5):∀k u,SA w1 B n x y vb l k u w→SA w1 B n x y vb l k u (w.setCell ⟨g,off,none⟩ u0):=by
 intro k u h
 have hb:KeptBut w (w.setCell ⟨g,off,none⟩ u0) (fun k=>k=g):=(KeptBut.refl _ _).then_set rfl
 by_cases hk:k=16
 ·subst hk;exact⟨own_kept h.1 hb (fun k hk e=>own_blk_ne h.1 hblk (fun e=>ht e.symm) (by rw[hk,e])),h.2⟩
 ·exact SA.mono2 hb (fun k e=>by rw[e];exact hg) k u hk h
theorem wp_append_str {w:World}{o:Oper}{a:Act}{K:Act→World→Prop}{Q:Exit→Act→World→Prop}(sl x:Operand)
  (ho:o.op=.call { callee:=.builtin .append,args:=#[sl,x],argTypes:=#[81,9] })
  (base:Nat) (v:Value) (l:List UInt8) (hs:a.eval sl=v) (hown:OwnB w base v l) (s:ByteArray) (hx:a.eval x=.string s) (hbytes:l.length+s.size≤70368744177664) (hbase:base≤w.heap.size)
  (h:∀v' w',OwnB w' base v' (l++s.data.toList)→w.grownBy w' v.ownBlock→(∀k,v'.ownBlock=some k→v.ownBlock=some k∨k=w.heap.size)→K (a.put o.dst v') w'):o.wp Tryz.prog a w K Q:=by
 obtain⟨v',w',hr,h2,h3,h4⟩:=run_append_str o.type s hown hbytes hbase;unfold Oper.wp execOp;simp only[ho,resolve,invoke,builtin,Sem.run_bind,Sem.run_pure,Result.andThen_ok,List.map_toArray,List.map_cons,List.map_nil,hs,hx,hr];exact h v' w' h2 h3 h4
def usL (l:List Value):Nat→Value:=fun k=>l.getD k undef
theorem set_self_get {cs:Array Value}{i:Nat}{v:Value}(h:cs[i]? = some v):cs.setIfInBounds i v=cs:=by
 apply Array.ext_getElem?
 intro j
 by_cases hj:j=i
 ·subst hj;rcases Nat.lt_or_ge j cs.size with hl | hl
  ·rw[Array.getElem?_setIfInBounds_self_of_lt hl,h]
  ·rw[Array.getElem?_eq_none hl] at h;cases h
 ·rw[Array.getElem?_setIfInBounds_ne (fun e=>hj e.symm)]
theorem set_lt {cs:Array Value}{i:Nat}{v:Value}(h:cs[i]? = some v):i<cs.size:=by
 rcases Nat.lt_or_ge i cs.size with hl | hl
 ·exact hl
 ·rw[Array.getElem?_eq_none hl] at h;cases h
theorem setBB_get {cs:Array Value}{off:Nat}{vb vs:Value}{s:BB}(h:off+3<cs.size):(setBB cs off vb vs s)[off]? = some vb∧(setBB cs off vb vs s)[off+1]? = some vs∧(setBB cs off vb vs s)[off+2]? = some (.int .i64 s.count)∧(setBB cs off vb vs s)[off+3]? = some (.string (bs s.last)):=by
 unfold setBB;refine⟨?_,?_,?_,?_⟩
 ·rw[Array.getElem?_setIfInBounds_ne (by omega),Array.getElem?_setIfInBounds_ne (by omega),Array.getElem?_setIfInBounds_ne (by omega),Array.getElem?_setIfInBounds_self_of_lt (by omega)]
 ·rw[Array.getElem?_setIfInBounds_ne (by omega),Array.getElem?_setIfInBounds_ne (by omega),Array.getElem?_setIfInBounds_self_of_lt (by simp;omega)]
 ·rw[Array.getElem?_setIfInBounds_ne (by omega),Array.getElem?_setIfInBounds_self_of_lt (by simp;omega)]
 ·rw[Array.getElem?_setIfInBounds_self_of_lt (by simp;omega)]
theorem BBAt.put_end {w W1 wx:World}{B g t off:Nat}{cs cs1:Array Value}{s:BB}{vb vs vs' v9 x y:Value}{k v:L}(h:BBAt w B g t off cs s vb vs)(hcs1:cs1=cs.setIfInBounds (off+1) vs')
  (hKt:KeptBut w W1 (BS g vb vs)) (hWt:OwnW W1 B vs' (s.put k v).starts) (hm:Moved w vs vs') (hgs:vs'.ownBlock≠some g) (ho9:OwnB wx B v9 (s.b++s.enc k v)) (hm9:Moved W1 vb v9)
  (hk9:KeptBut W1 wx (fun k=>k=g∨vb.ownBlock=some k)) (hb9:Blk wx g t (cs1.setIfInBounds off v9)) (hvs:∀k,vb.ownBlock=some k→vs'.ownBlock≠some k)
  (hx:x=.string (bs k)) (hy:y=.int .i64 ((s.count+1:Nat):Int)) :
  ∃vb' vs'',BBAt ((wx.setCell ⟨g,off+3,none⟩ x).setCell ⟨g,off+2,none⟩ y) B g t off (setBB cs off vb' vs'' (s.put k v)) (s.put k v) vb' vs''∧KeptBut w ((wx.setCell ⟨g,off+3,none⟩ x).setCell ⟨g,off+2,none⟩ y) (BS g vb vs)∧Moved w vb vb'∧Moved w vs vs'':=by
 subst hx hy hcs1;have hsz:=set_lt h.e3
 have e:((((cs.setIfInBounds (off+1) vs').setIfInBounds off v9).setIfInBounds (off+3) (.string (bs k))).setIfInBounds (off+2) (.int .i64 ((s.count+1:Nat):Int)))=setBB cs off v9 vs' (s.put k v):=by
  unfold setBB;rw[Array.setIfInBounds_comm (i:=off) (j:=off+1) _ _ (by omega),Array.setIfInBounds_comm (i:=off+2) (j:=off+3) _ _ (by omega)];rfl
 have hB1:=hb9.set_ (off+3) (.string (bs k));have hB2:=hB1.set_ (off+2) (.int .i64 ((s.count+1:Nat):Int));rw[e] at hB2;have o1:=own_set (o:=off+3) (u:=.string (bs k)) ho9 hb9 h.tb;have o2:=own_set (o:=off+2) (u:=.int .i64 ((s.count+1:Nat):Int)) o1 hB1 h.tb
 have p0:=own_kept hWt hk9 (fun k hk e=>by
  rcases e with e | e
  ·exact hgs (by rw[hk,e])
  ·exact hvs k e hk)
 have p1:=own_set (o:=off+3) (u:=.string (bs k)) p0 hb9 h.tw;have p2:=own_set (o:=off+2) (u:=.int .i64 ((s.count+1:Nat):Int)) p1 hB1 h.tw;obtain⟨g0,g1,g2,g3⟩:=setBB_get (cs:=cs) (off:=off) (vb:=v9) (vs:=vs') (s:=s.put k v) hsz;refine⟨v9,vs',⟨h.hB,hB2,g0,g1,g2,g3,o2,p2,h.tb,h.tw⟩,?_,hm9.of_le hKt.size,hm⟩
 exact (((hKt.trans hk9 (fun k _ e=>e.elim .inl (fun e=>.inr (.inl e)))).then_set (.inl rfl)).then_set (.inl rfl))
end Go.Proofs.YtlpojfgeocpkeaaGreatDoor
