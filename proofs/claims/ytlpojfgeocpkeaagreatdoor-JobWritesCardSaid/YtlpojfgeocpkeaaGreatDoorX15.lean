/- strings.Builder whose row is known by name: WriteString, String. Contracts: okey: Str, Num, Key of one text, readText. Contracts: okey: readText. block.Builder in memory; shared. Contracts: okey: Parts. Contracts: table: Internal, big, entry. -/
import Derived.Test.YtlpojfgeocpkeaaGreatDoorX08
import Derived.Test.YtlpojfgeocpkeaaGreatDoorX03
import Derived.Test.YtlpojfgeocpkeaaGreatDoorX11
import Derived.Test.YtlpojfgeocpkeaaGreatDoorTCrcJ
import Derived.Test.YtlpojfgeocpkeaaGreatDoorX01
import Derived.Test.YtlpojfgeocpkeaaGreatDoorX00
import Derived.Lib.Hide
namespace Go.Proofs.YtlpojfgeocpkeaaGreatDoor
open Go.RowKit
set_option linter.unusedVariables false
set_option linter.unusedSimpArgs false
def Mv (w:World)(v v':Value):Prop:=∀k,v'.ownBlock=some k→v.ownBlock=some k∨w.heap.size≤k
theorem Mv.nil (w:World)(v:Value):Mv w v (.slice none 0 0):=fun k h=>by cases h
theorem Mv.refl (w:World)(v:Value):Mv w v v:=fun k h=>.inl h
def SBv (w:World)(b:Nat)(v:Value)(l:List UInt8):Prop:=(∃p,(p=.pointer none∨p=.pointer (some ⟨b,0,none⟩))∧w.heap[b]? = some (.cells #[p,v] 128 (0,0)))∧OwnB w 0 v l∧v.ownBlock≠some b
theorem SBv.lt {w:World}{b:Nat}{v:Value}{l:List UInt8}(h:SBv w b v l):b<w.heap.size:=by
 obtain⟨⟨p,_,hb⟩,_⟩:=h;rcases Nat.lt_or_ge b w.heap.size with h' | h'
 ·exact h'
 ·rw[Array.getElem?_eq_none h'] at hb;cases hb
theorem SBv.new (w:World):SBv (w.alloc (.cells #[.pointer none,.slice none 0 0] 128)) w.heap.size (.slice none 0 0) [] :=
 ⟨⟨_,.inl rfl,heap_alloc_new w _⟩,OwnB.nil _ _,by simp[Value.ownBlock]⟩
theorem SBv.kept {w w':World}{S:Nat→Prop}{b:Nat}{v:Value}{l:List UInt8}(h:SBv w b v l)(hk:KeptBut w w' S)(hb:¬S b)(hv:∀k,v.ownBlock=some k→¬S k):SBv w' b v l:=by
 have hlt:=h.lt;obtain⟨⟨p,hp,hbk⟩,ho,hn⟩:=h;exact⟨⟨p,hp,(hk.block b hlt hb).trans hbk⟩,own_kept ho hk hv,hn⟩
theorem SBv.isB {w:World}{B b:Nat}{v:Value}{l:List UInt8}(h:SBv w b v l)(hB:B≤b)(hv:∀k,v.ownBlock=some k→B≤k):IsB B b l w:=by
 obtain⟨⟨p,hp,hbk⟩,ho,hn⟩:=h
 have ho2:w.ownsRow B 5 1 v (Lib.byteCells l).length (Lib.byteCells l):=by
  have e:Lib.byteCells l=l.map B8:=rfl;rw[e,List.length_map];refine⟨ho.1,ho.2.imp id ?_⟩;rintro ⟨g,cap,cur,e1,h1,rest⟩;exact⟨g,cap,cur,e1,hv g (by rw[e1];rfl),rest⟩
 rcases hp with rfl | rfl
 ·exact .inl ⟨hB,v,hbk,ho2,hn⟩
 ·exact .inr ⟨hB,v,hbk,ho2,hn⟩
theorem check_v {w:World}{b:Nat}{v:Value}{l:List UInt8}(h:SBv w b v l) :
  Calls Tryz.prog 118 #[.pointer (some ⟨b,0,none⟩)] w fun e w'=>e=.returned (.tuple #[])∧w'.heap[b]? = some (.cells #[.pointer (some ⟨b,0,none⟩),v] 128 (0,0))∧OwnB w' 0 v l∧KeptBut w w' (fun k=>k=b):=by
 obtain⟨⟨p,hp,hbk⟩,ho,hn⟩:=h;have hB:Lib.IsBuilder 128 5 0 b (Lib.byteCells l) w:=SBv.isB ⟨⟨p,hp,hbk⟩,ho,hn⟩ (Nat.zero_le _) (fun _ _=>Nat.zero_le _);rcases hp with rfl | rfl
 ·have h0:w.cell? ⟨b,0,none⟩=some (.pointer none):=by rw[Lib.cell_of_heap hbk];rfl
  have h1:w.shape? b=some (128,2):=by simp[World.shape?,hbk]
  refine (copyCheck_fresh b w h0 h1 (Lib.frozen_of_heap hbk 0)).mono ?_;rintro e w' ⟨rfl,rfl⟩
  have hk:KeptBut w (w.setCell ⟨b,0,none⟩ (.pointer (some ⟨b,0,none⟩))) (fun k=>k=b):=(KeptBut.refl w _).then_set rfl
  refine⟨rfl,?_,own_kept ho hk (fun k e1 e2=>hn (by rw[e1,e2])),hk⟩;have:=Blk.set_ (show Blk w b 128 #[.pointer none,v] from hbk) 0 (.pointer (some ⟨b,0,none⟩))
  simpa[Blk] using this
 ·have h0:w.cell? ⟨b,0,none⟩=some (.pointer (some ⟨b,0,none⟩)):=by rw[Lib.cell_of_heap hbk];rfl
  refine (copyCheck_used b w h0).mono ?_;rintro e w' ⟨rfl,rfl⟩;exact⟨rfl,hbk,ho,KeptBut.refl _ _⟩
set_option maxHeartbeats 2000000 in
set_option maxRecDepth 100000 in
theorem write_v {w:World}{b:Nat}{v:Value}{l:List UInt8}(h:SBv w b v l)(s:List UInt8)(hlen:l.length+s.length≤70368744177664) :
  Calls Tryz.prog 82 #[.pointer (some ⟨b,0,none⟩),.string (bs s)] w fun e w'=>e=.returned (.tuple #[.int .i64 s.length,.nilIface])∧∃v',SBv w' b v' (l++s)∧Mv w v v'∧KeptBut w w' (fun k=>k=b∨v.ownBlock=some k):=by
 obtain⟨i0,hi,hz0,hz1,hz2⟩:=info_parts u8_info;have hne:=h.2.2;have hsz:(bs s).size=s.length:=bs_size s;have hc:=Lib.hid (check_v h)
 go_enter Tryz.func82,Tryz.ntmps82
 go_wp2_with fail
 refine hc.out.mono ?_;rintro e w1 ⟨rfl,hbk,hown,hk1⟩
 have c0:w1.cell? ⟨b,0,none⟩=some (.pointer (some ⟨b,0,none⟩)):=by rw[Lib.cell_of_heap hbk];rfl
 have c1:w1.cell? ⟨b,1,none⟩=some v:=by rw[Lib.cell_of_heap hbk];rfl
 replace hown:=Lib.hid hown
 obtain⟨Av,nv,cv,rfl⟩:∃A n c,v=.slice A n c:=by
  rcases hown.out.2 with⟨rfl,_⟩ | ⟨g,cap,cur,rfl,_⟩
  ·exact⟨_,_,_,rfl⟩
  ·exact⟨_,_,_,rfl⟩
 go_wp2_with (at_builtin;refine wpList_append_str rfl _ _ rfl 0 _ l rfl hown.out (bs s) rfl ?c3 (Nat.zero_le _) ?_)
 case c3=>rw[hsz];omega
 intro v' w2 hown' hgrow hat;rw[bs_data] at hown'
 obtain⟨ao,n',cap,rfl⟩:∃ao n' cap,v'=.slice ao n' cap:=by
  rcases hown'.2 with⟨hv,_⟩ | ⟨g,cap,cur,hv,_⟩
  ·exact⟨_,_,_,hv⟩
  ·exact⟨_,_,_,hv⟩
 have hlt:b<w1.heap.size:=by
  rcases Nat.lt_or_ge b w1.heap.size with h' | h'
  ·exact h'
  ·rw[Array.getElem?_eq_none h'] at hbk;cases hbk
 have hb2:Blk w2 b 128 #[.pointer (some ⟨b,0,none⟩),.slice Av nv cv]:=(hgrow.block b hlt (fun e=>hne e.symm)).trans hbk;have d0:w2.cell? ⟨b,0,none⟩=some (.pointer (some ⟨b,0,none⟩)):=hb2.cell 0;have d1:w2.cell? ⟨b,1,none⟩=some (.slice Av nv cv):=hb2.cell 1;have f1:w2.frozen? ⟨b,1,none⟩=false:=hb2.frozen 1;have hl2:=hb2.lt;have hsz1:=hk1.size
 have hK:KeptBut w (w2.setCell ⟨b,1,none⟩ (.slice ao n' cap)) (fun k=>k=b∨(Value.slice Av nv cv).ownBlock=some k) :=
  ((hk1.mono (fun k _ e=>.inl e)).then_grown hgrow (fun k e=>.inr e)).then_set (.inl rfl)
 have hmv:Mv w (.slice Av nv cv) (.slice ao n' cap):=fun k e=>(hat k e).imp id (fun e=>by omega)
 have hne':(Value.slice ao n' cap).ownBlock≠some b:=fun e=>by
  rcases hat b e with e1 | e1
  ·exact hne e1
  ·omega
 have hS:SBv (w2.setCell ⟨b,1,none⟩ (.slice ao n' cap)) b (.slice ao n' cap) (l++s):=by
  refine⟨⟨_,.inr rfl,?_⟩,own_kept hown' ((KeptBut.refl w2 (fun k=>k=b)).then_set rfl) (fun k e1 e2=>hne' (by rw[e1,e2])),hne'⟩
  have:=hb2.set_ 1 (.slice ao n' cap)
  simpa[Blk] using this
 replace hS:=Lib.hid hS;replace hK:=Lib.hid hK;replace hmv:=Lib.hid hmv;replace hgrow:=Lib.hid hgrow;replace hat:=Lib.hid hat;clear hbk c0 c1 hc
 go_wp2
 go_ret2
 exact⟨rfl,_,hS.out,hmv.out,hK.out⟩
theorem string_v {w:World}{B b:Nat}{v:Value}{l:List UInt8}(h:SBv w b v l)(hB:B≤b)(hv:∀k,v.ownBlock=some k→B≤k) :
  Calls Tryz.prog 84 #[.pointer (some ⟨b,0,none⟩)] w fun e w'=>e=.returned (.string (bs l))∧Below B w w' :=
 Tryz.Builder_String_any B b l w (h.isB hB hv) (Nat.le_trans hB (Nat.le_of_lt h.lt))
structure Gl (w:World):Prop where
 tab:TabAt w
 mx:∃m,w.cell? ⟨4,0,none⟩=some (.int .i64 m)
theorem Gl.lt {w:World}(h:Gl w):4<w.heap.size:=by
 obtain⟨m,hm⟩:=h.mx;exact cell_lt hm
theorem Gl.below {w w':World}{B:Nat}(h:Gl w)(hb:Below B w w')(hB:4<B):Gl w' :=
 ⟨h.tab.below hb (by omega),h.mx.imp fun m hm=>(hb.cell (p:=⟨4,0,none⟩) hB).trans hm⟩
theorem Gl.kept {w w':World}{S:Nat→Prop}(h:Gl w)(hk:KeptBut w w' S)(h0:¬S 1)(h1:¬S 4):Gl w' :=
 ⟨fun i hi=>(hk.cell ⟨1,i,none⟩ (by have:=h.lt;show 1<w.heap.size;omega) h0).trans (h.tab i hi),h.mx.imp fun m hm=>(hk.cell ⟨4,0,none⟩ h.lt h1).trans hm⟩
def partV (b:Bool)(s:ByteArray)(n:Nat):Value:=.agg #[.bool b,.string s,.int .u64 (n:Nat)]
set_option maxRecDepth 100000 in
set_option maxHeartbeats 4000000 in
theorem Str_any (s:ByteArray)(w:World) :
  Calls Tryz.prog 143 #[.string s] w fun e w'=>e=.returned (partV true s 0)∧Below w.heap.size w w':=by
 go_enter Tryz.func143,Tryz.ntmps143
 go_wp2_with fail
 exact bodyPost_ret (v:=partV true s 0) (results_cell_row rfl _ _ w.heap.size 188 #[.bool true,.string s,.int .u64 0] (0,0) _ rfl (heap_alloc_new w _) Tryz.underlying188 rfl (by kernel_rfl)) rfl ⟨rfl,(Below.refl _ _).alloc (Nat.le_refl _) _⟩
set_option maxRecDepth 100000 in
set_option maxHeartbeats 4000000 in
theorem Num_any (n:Nat)(w:World)(hn:n<18446744073709551616) :
  Calls Tryz.prog 166 #[.int .u64 (n:Nat)] w fun e w'=>e=.returned (partV false ⟨#[]⟩ n)∧Below w.heap.size w w':=by
 go_enter Tryz.func166,Tryz.ntmps166
 go_wp2_with fail
 exact bodyPost_ret (v:=partV false ⟨#[]⟩ n) (results_cell_row rfl _ _ w.heap.size 188 #[.bool false,.string ⟨#[]⟩,.int .u64 (n:Nat)] (0,0) _ rfl (heap_alloc_new w _) Tryz.underlying188 rfl (by kernel_rfl)) rfl ⟨rfl,(Below.refl _ _).alloc (Nat.le_refl _) _⟩
theorem repl_data (s:ByteArray):(⟨(Lib.replaceAll s.data.toList (⟨#[0]⟩:ByteArray).data.toList (⟨#[0,255]⟩:ByteArray).data.toList).toArray⟩:ByteArray)=bs (escL s.data.toList):=by
 rw[show (⟨#[0]⟩:ByteArray).data.toList=[0] from rfl,show (⟨#[0,255]⟩:ByteArray).data.toList=[0,255] from rfl,repl_esc];rfl
set_option maxRecDepth 100000 in
set_option maxHeartbeats 4000000 in
theorem KeyS_any (b:Nat)(s:ByteArray)(w:World)(hG:Gl w)(hc0:w.cell? ⟨b,0,none⟩=some (.bool true))(hc1:w.cell? ⟨b,1,none⟩=some (.string s))(hc2:w.cell? ⟨b,2,none⟩=some (.int .u64 0))(hs:s.size≤1073741824) :
  Calls Tryz.prog 142 #[.slice (some ⟨b,0,none⟩) 1 1] w fun e w'=>e=.returned (.string (bs (strKey s.data.toList)))∧Below w.heap.size w w':=by
 have hbl:=cell_lt hc0;obtain⟨mx,hmx⟩:=hG.mx;have h1l:=cell_lt hmx;have hec:=escL_len s.data.toList;rw[dlen] at hec
 have hcnt:Lib.count s.data.toList [0]≤s.size:=by have:=(esc_repl s.data.toList).2;rwa [dlen] at this
 go_enter Tryz.func142,Tryz.ntmps142
 go_wp2_with fail
 go_loopw [8] (fun i wr=>(i=.int .i64 0∧IsB w.heap.size w.heap.size [] wr∨i=.int .i64 1∧IsB w.heap.size w.heap.size (strKey s.data.toList) wr)∧Below w.heap.size w wr) (fun i _=>(1-intOf i).toNat)
 case atStart=>exact⟨.inl ⟨rfl,IsB.new w⟩,(Below.refl _ _).alloc (Nat.le_refl _) _⟩
 case round =>
  obtain⟨⟨rfl,ho⟩ | ⟨rfl,ho⟩,hbr⟩:=hrel
  ·have q0:=(hbr.cell (p:=⟨b,0,none⟩) hbl).trans hc0;have q1:=(hbr.cell (p:=⟨b,1,none⟩) hbl).trans hc1;have q2:=(hbr.cell (p:=⟨b,2,none⟩) hbl).trans hc2;have hmr:=(hbr.cell (p:=⟨4,0,none⟩) h1l).trans hmx;have hzr:=hbr.size;have hob:=ho.lt;go_wp2_with fail
   have hm2:(wr.alloc (.cells #[.bool true,.string s,.int .u64 0] 188)).cell? ⟨4,0,none⟩=some (.int .i64 mx):=by
    rw[World.cell?_alloc_lt wr _ ⟨4,0,none⟩ (by show 4<wr.heap.size;omega)];exact hmr
   refine (Tryz.strings_ReplaceAll s ⟨#[0]⟩ ⟨#[0,255]⟩ mx _ (by omega) hm2 (by decide) (by show s.size+Lib.count s.data.toList [0]*2≤_;omega)).mono ?_;rintro e w1 ⟨rfl,hb1⟩;rw[repl_data];have hbw1:Below w.heap.size w w1:=(hbr.alloc (by omega) _).trans (hb1.mono (by rw[World.size_alloc];omega));have ho1:IsB w.heap.size w.heap.size [] w1:=ho.below (((Below.refl _ _).alloc (Nat.le_refl _) _).trans (hb1.mono (by rw[World.size_alloc];omega)));have hes:=bs_size (escL s.data.toList)
   have k1:1+(bs (escL s.data.toList)).size≤9223372036854775807:=by omega
   have k2:1+(bs (escL s.data.toList)).size+2≤9223372036854775807:=by omega
   have hsz:(((⟨#[2]⟩:ByteArray)++bs (escL s.data.toList))++⟨#[0,1]⟩).size=1+(escL s.data.toList).length+2:=by rw[ByteArray.size_append,ByteArray.size_append,hes];rfl
   have hda:(((⟨#[2]⟩:ByteArray)++bs (escL s.data.toList))++⟨#[0,1]⟩).data.toList=strKey s.data.toList:=by simp[strKey,bs]
   replace hda:=Lib.hid hda;go_wp2_with fail
   refine (write_any w.heap.size w.heap.size [] _ _ ho1 (by rw[hsz];show 0+_≤_;omega) hbw1.size).mono ?_;rintro e w2 ⟨rfl,ho2,hb2⟩;rw[hda.out] at ho2;go_wp2_with fail
   exact⟨⟨.inr ⟨by rfl,ho2⟩,hbw1.trans hb2⟩,by decide⟩
  ·go_wp2_with fail
   refine (Tryz.Builder_String_any w.heap.size w.heap.size _ _ ho hbr.size).mono ?_;rintro e w1 ⟨rfl,hb1⟩;go_wp2_with fail
   go_ret
   exact⟨rfl,hbr.trans hb1⟩
theorem indexByte_cases:∀l:L,(Lib.indexByte l 0=-1∧∀c∈l,c≠0)∨∃p r,l=p++0::r∧(∀c∈p,c≠0)∧Lib.indexByte l 0=(p.length:Nat)
 | []=>.inl ⟨rfl,fun c hc=>by cases hc⟩
 | b::l=>by
  by_cases hb:b=0
  ·subst hb;exact .inr ⟨[],l,rfl,(fun c hc=>by cases hc),by simp[Lib.indexByte]⟩
  ·have hbb:(b==0)=false:=by simpa using hb
   rcases indexByte_cases l with⟨h1,h2⟩ | ⟨p,r,h1,h2,h3⟩
   ·refine .inl ⟨by simp[Lib.indexByte,hbb,h1],fun c hc=>?_⟩;rcases List.mem_cons.1 hc with rfl | hc
    ·exact hb
    ·exact h2 c hc
   ·refine .inr ⟨b::p,r,by rw[h1];rfl,fun c hc=>?_,?_⟩
    ·rcases List.mem_cons.1 hc with rfl | hc
     ·exact hb
     ·exact h2 c hc
    ·have:¬(((p.length:Nat):Int)=-1):=by omega
     simp[Lib.indexByte,hbb,h3,this]
def rtV (o:Option (L × L)):Value:=match o with
 | none=>.tuple #[.string ⟨#[]⟩,.string ⟨#[]⟩,.bool false]
 | some (t,r)=>.tuple #[.string (bs t),.string (bs r),.bool true]
def strLen:Value→Nat
 | .string b=>b.size
 | _=>0
theorem bs_ext (l:L)(a b:Nat):(bs l).extract a b=bs ((l.drop a).take (b-a)):=by rw[ext_bs,bs_data]
set_option maxRecDepth 100000 in
set_option maxHeartbeats 4000000 in
theorem readTextK_any (s:ByteArray)(w:World)(hs:s.size≤1073741824) :
  Calls Tryz.prog 167 #[.string s] w fun e w'=>e=.returned (rtV (rtK s.data.toList []))∧Below w.heap.size w w':=by
 go_enter Tryz.func167,Tryz.ntmps167
 go_wp2_with fail
 go_loopw [0] (fun sv wr=>∃cur acc,sv=.string (bs cur)∧IsB w.heap.size w.heap.size acc wr∧rtK s.data.toList []=rtK cur acc∧acc.length+cur.length≤s.size∧Below w.heap.size w wr) (fun sv _=>strLen sv)
 case atStart=>exact⟨s.data.toList,[],by rw[bs_of],IsB.new w,rfl,by rw[dlen];exact Nat.le_of_eq (Nat.zero_add _),(Below.refl _ _).alloc (Nat.le_refl _) _⟩
 case round =>
  obtain⟨cur,acc,rfl,ho,hR,hle,hbr⟩:=hrel;have hcs:=Lib.hid (bs_size cur);have hix:=Tryz.strings_IndexByte (bs cur) 0 wr;rw[bs_data,show (0:Int).toNat.toUInt8=(0:UInt8) from rfl] at hix;have hob:=ho.lt;rcases indexByte_cases cur with⟨h1,h2⟩ | ⟨p,r,h1,h2,h3⟩
  ·rw[h1] at hix;have hN:=hR.trans (rtK_none cur acc h2);replace hix:=Lib.hid hix;replace hN:=Lib.hid hN;replace hR:=Lib.hid hR;go_wp2_with fail
   refine hix.out.mono ?_;rintro e w1 ⟨rfl,rfl⟩;go_wp2_with fail
   go_ret3
   exact⟨by rw[hN.out];rfl,hbr⟩
  ·rw[h3] at hix
   have hcl:cur.length=p.length+1+r.length:=by rw[h1];simp;omega
   have hnn:¬((p.length:Nat):Int)<0:=by omega
   rcases r with _ | ⟨m,r⟩
   ·have hN:rtK s.data.toList []=none:=by rw[hR,h1];exact rtK_last p acc h2
    have heq:((p.length:Nat):Int)+1=((bs cur).size:Nat):=by rw[hcs.out,hcl];simp
    replace hix:=Lib.hid hix;replace hN:=Lib.hid hN;replace hR:=Lib.hid hR;replace h1:=Lib.hid h1;go_wp2_with fail
    refine hix.out.mono ?_;rintro e w1 ⟨rfl,rfl⟩;go_wp2_with fail
    go_ret3
    exact⟨by rw[hN.out];rfl,hbr⟩
   ·have hne:¬((p.length:Nat):Int)+1=((bs cur).size:Nat):=by rw[hcs.out,hcl];simp;omega
    have hbz:p.length+2≤(bs cur).size:=by rw[hcs.out,hcl];simp;omega
    have e1:(bs cur).extract 0 p.length=bs p:=by rw[bs_ext,h1];simp
    have e2:(bs cur).extract (p.length+1) (p.length+2)=bs [m]:=by rw[bs_ext,h1,show p.length+2-(p.length+1)=1 from by omega,←List.drop_drop,List.drop_left];simp
    have e3:(bs cur).extract (p.length+2) (bs cur).size=bs r:=by
     rw[bs_ext,h1,←List.drop_drop,List.drop_left,List.take_of_length_le (by rw[←h1,hcs.out,hcl];simp;omega)];rfl
    have hw0:=write_any w.heap.size w.heap.size acc (bs p) wr ho (by rw[bs_size];omega) hbr.size;rw[bs_data] at hw0
    have hmm:((bs [m]).toList==((⟨#[0,1]⟩:ByteArray).extract 1 2).toList)=decide (m=1):=by
     rw[bs_toList,show ((⟨#[0,1]⟩:ByteArray).extract 1 2).toList=[1] from by rw[ByteArray.toList_eq];rfl]
     by_cases h:m=1<;>simp[h]
    have hm2:((bs [m]).toList==[255])=decide (m=255):=by
     rw[bs_toList]
     by_cases h:m=255<;>simp[h]
    have hrt:rtK s.data.toList []=(if m=1 then some (acc++p,r) else if m=255 then rtK r (acc++p++[0]) else none):=by
     rw[hR,h1,rtK_skip p (m::r) acc h2,rtK,if_pos rfl]
    replace hix:=Lib.hid hix;replace hw0:=Lib.hid hw0;replace hrt:=Lib.hid hrt;replace hR:=Lib.hid hR;replace h1:=Lib.hid h1;replace h3:=Lib.hid h3
    have hbc:(bs cur).size≤1073741824:=by rw[hcs.out];omega
    have hd1:decide (((p.length:Nat):Int)<0)=false:=by simp
    have hd2:(((p.length:Nat):Int)+1==(((bs cur).size:Nat):Int))=false:=by simpa using hne
    by_cases hq:m=1
    ·have hd:decide (m=1)=true:=by simpa using hq
     rw[hd] at hmm;have hrt1:=hrt.out;rw[if_pos hq] at hrt1;replace hrt1:=Lib.hid hrt1;clear hm2 hd hq hrt;go_wp2_with fail
     refine hix.out.mono ?_;rintro e w1 ⟨rfl,rfl⟩;go_wp2_with fail
     refine hw0.out.mono ?_;rintro e w2 ⟨rfl,ho2,hb2⟩;have hob2:=ho2.lt;go_wp2_with fail
     refine (Tryz.Builder_String_any w.heap.size w.heap.size (acc++p) w2 ho2 (Nat.le_trans hbr.size hb2.size)).mono ?_;rintro e w3 ⟨rfl,hb3⟩;go_wp2_with fail
     go_ret3
     refine⟨?_,(hbr.trans hb2).trans hb3⟩;rw[hrt1.out];simp only[rtV,e3];rfl
    ·have hd:decide (m=1)=false:=by simpa using hq
     rw[hd] at hmm
     by_cases hq2:m=255
     ·have hd3:decide (m=255)=true:=by simpa using hq2
      rw[hd3] at hm2;have hrt1:=hrt.out;rw[if_neg hq,if_pos hq2] at hrt1;replace hrt1:=Lib.hid hrt1;clear hd hq hq2 hd3 hrt;go_wp2_with fail
      refine hix.out.mono ?_;rintro e w1 ⟨rfl,rfl⟩;go_wp2_with fail
      refine hw0.out.mono ?_;rintro e w2 ⟨rfl,ho2,hb2⟩;have hob2:=ho2.lt;have hw1:=write_any w.heap.size w.heap.size (acc++p) ⟨#[0]⟩ w2 ho2 (by rw[List.length_append];show _+1≤_;omega) (Nat.le_trans hbr.size hb2.size);replace hw1:=Lib.hid hw1;go_wp2_with fail
      refine hw1.out.mono ?_;rintro e w3 ⟨rfl,ho3,hb3⟩;go_wp2_with fail
      have hcl2:cur.length=p.length+2+r.length:=by rw[hcl];simp;omega
      refine⟨⟨r,acc++p++[0],rfl,ho3,hrt1.out,by simp;omega,(hbr.trans hb2).trans hb3⟩,?_⟩;simp only[strLen];rw[bs_size,hcs.out];omega
     ·have hd3:decide (m=255)=false:=by simpa using hq2
      rw[hd3] at hm2;have hrt1:=hrt.out;rw[if_neg hq,if_neg hq2] at hrt1;replace hrt1:=Lib.hid hrt1;clear hd hq hq2 hd3 hrt;go_wp2_with fail
      refine hix.out.mono ?_;rintro e w1 ⟨rfl,rfl⟩;go_wp2_with fail
      refine hw0.out.mono ?_;rintro e w2 ⟨rfl,ho2,hb2⟩;have hob2:=ho2.lt;go_wp2_with fail
      go_ret3
      exact⟨by rw[hrt1.out];rfl,hbr.trans hb2⟩
def OwnW (w:World)(B:Nat)(v:Value)(l:List Nat):Prop:=w.ownsRow B 34 1 v l.length (l.map fun n=>Value.int .u64 (n:Nat))
structure BBAt (w:World)(B g t off:Nat)(cs:Array Value)(s:BB)(vb vs:Value):Prop where
 hB:B≤g
 blk:Blk w g t cs
 e0:cs[off]? = some vb
 e1:cs[off+1]? = some vs
 e2:cs[off+2]? = some (.int .i64 s.count)
 e3:cs[off+3]? = some (.string (bs s.last))
 ob:OwnB w B vb s.b
 os:OwnW w B vs s.starts
 tb:t≠5
 tw:t≠34
def setBB (cs:Array Value)(off:Nat)(vb vs:Value)(s:BB):Array Value:=(((cs.setIfInBounds off vb).setIfInBounds (off+1) vs).setIfInBounds (off+2) (.int .i64 s.count)).setIfInBounds (off+3) (.string (bs s.last))
def BS (g:Nat)(vb vs:Value):Nat→Prop:=fun k=>k=g∨vb.ownBlock=some k∨vs.ownBlock=some k
def Moved (w:World)(v v':Value):Prop:=v'.ownBlock=v.ownBlock∨∃k,v'.ownBlock=some k∧w.heap.size≤k
theorem BBAt.gb {w:World}{B g t off:Nat}{cs:Array Value}{s:BB}{vb vs:Value}(h:BBAt w B g t off cs s vb vs):vb.ownBlock≠some g:=own_blk_ne h.ob h.blk (fun e=>h.tb e.symm)
theorem BBAt.gs {w:World}{B g t off:Nat}{cs:Array Value}{s:BB}{vb vs:Value}(h:BBAt w B g t off cs s vb vs):vs.ownBlock≠some g:=own_blk_ne h.os h.blk (fun e=>h.tw e.symm)
theorem own_types {w:World}{B B' e e' m m' n n':Nat}{v v':Value}{xs xs':List Value}(h:w.ownsRow B e m v n xs)(h':w.ownsRow B' e' m' v' n' xs')(hne:e≠e'):∀k,v.ownBlock=some k→v'.ownBlock≠some k:=by
 intro k hk;rcases h.2 with⟨rfl,_⟩ | ⟨g,cap,cur,rfl,hg,hh,_⟩
 ·simp[Value.ownBlock] at hk
 ·simp only[Value.ownBlock,Option.some.injEq] at hk;subst hk;exact own_blk_ne h' (t:=e) hh (fun e=>hne e.symm)
theorem BBAt.nbs {w:World}{B g t off:Nat}{cs:Array Value}{s:BB}{vb vs:Value}(h:BBAt w B g t off cs s vb vs):∀k,vb.ownBlock=some k→vs.ownBlock≠some k:=own_types h.ob h.os (by decide)
theorem BBAt.below {w w':World}{B g t off:Nat}{cs:Array Value}{s:BB}{vb vs:Value}(h:BBAt w B g t off cs s vb vs)(hb:Below w.heap.size w w'):BBAt w' B g t off cs s vb vs :=
 ⟨h.hB,h.blk.below hb h.blk.lt,h.e0,h.e1,h.e2,h.e3,own_block h.ob (fun k hk=>hb.block k (own_lt h.ob k hk).2),own_block h.os (fun k hk=>hb.block k (own_lt h.os k hk).2),h.tb,h.tw⟩
theorem BBAt.kept {w w':World}{S:Nat→Prop}{B g t off:Nat}{cs:Array Value}{s:BB}{vb vs:Value}(h:BBAt w B g t off cs s vb vs)(hk:KeptBut w w' S)(h0:¬S g)(h1:∀k,vb.ownBlock=some k→¬S k)(h2:∀k,vs.ownBlock=some k→¬S k):BBAt w' B g t off cs s vb vs :=
 ⟨h.hB,h.blk.keptB hk h0,h.e0,h.e1,h.e2,h.e3,own_kept h.ob hk h1,own_kept h.os hk h2,h.tb,h.tw⟩
theorem Moved.refl (w:World)(v:Value):Moved w v v:=.inl rfl
theorem u8_beq (a b:UInt8):(((a.toNat:Nat):Int)==((b.toNat:Nat):Int))=decide (a=b):=by
 by_cases h:a=b
 ·subst h;simp
 ·have:¬((a.toNat:Nat):Int)=((b.toNat:Nat):Int):=fun h'=>h (UInt8.toNat_inj.1 (by omega));simp[this,h]
set_option maxRecDepth 100000 in
set_option maxHeartbeats 4000000 in
theorem shared_any (a b:ByteArray)(w:World)(ha:a.size≤1099511627776) :
  Calls Tryz.prog 144 #[.string a,.string b] w fun e w'=>e=.returned (.int .i64 (sharedL a.data.toList b.data.toList:Nat))∧Below w.heap.size w w':=by
 go_enter Tryz.func144,Tryz.ntmps144
 go_wp2_with fail
 go_loopw [5] (fun i wr=>∃k:Nat,i=.int .i64 k∧k≤a.size∧k≤b.size∧sharedL a.data.toList b.data.toList=k+sharedL (a.data.toList.drop k) (b.data.toList.drop k)∧Below w.heap.size w wr) (fun i _=>a.size-(intOf i).toNat)
 case atStart=>exact⟨0,rfl,Nat.zero_le _,Nat.zero_le _,by simp,Below.refl _ _⟩
 case round =>
  obtain⟨k,rfl,hka,hkb,hs,hbr⟩:=hrel;replace hs:=Lib.hid hs;replace hbr:=Lib.hid hbr
  by_cases h1:k<a.size
  ·have h1':(k:Int)<a.size:=by omega
   have la:k<a.data.toList.length:=by rw[Lib.size_eq] at h1;exact h1
   by_cases h2:k<b.size
   ·have h2':(k:Int)<b.size:=by omega
    have lb:k<b.data.toList.length:=by rw[Lib.size_eq] at h2;exact h2
    have ka:k<a.data.size:=h1;have kb:k<b.data.size:=h2;have ga:a[k]=a.data[k]:=rfl;have gb:b[k]=b.data[k]:=rfl
    have hsk:sharedL (a.data.toList.drop k) (b.data.toList.drop k)=if a.data[k]=b.data[k] then sharedL (a.data.toList.drop (k+1)) (b.data.toList.drop (k+1))+1 else 0:=by
     rw[List.drop_eq_getElem_cons la,List.drop_eq_getElem_cons lb];rfl
    replace hsk:=Lib.hid hsk;have hcc:=u8_beq a.data[k] b.data[k]
    by_cases he:a.data[k]=b.data[k]
    ·generalize a.data[k]=ca at *
     generalize b.data[k]=cb at *
     subst he;go_wp2_with fail
     go_region
     go_wp2_with fail
     refine⟨⟨k+1,by rfl,by omega,by omega,?_,hbr.out.drew⟩,by first | omega | (simp only[intOf];omega)⟩
     rw[hs.out,hsk.out];simp;omega
    ·generalize a.data[k]=ca at *
     generalize b.data[k]=cb at *
     have he2:¬((ca.toNat:Nat):Int)=((cb.toNat:Nat):Int):=fun h=>he (UInt8.toNat_inj.1 (by omega));go_wp2_with fail
     go_region
     go_wp2_with fail
     go_ret
     refine⟨?_,hbr.out.drew⟩;rw[hs.out,hsk.out,if_neg he];rfl
   ·obtain rfl:k=b.size:=by omega
    have h2':¬(b.size:Int)<b.size:=by omega
    go_wp2_with fail
    go_region
    go_wp2_with fail
    go_ret
    refine⟨?_,hbr.out.drew⟩;rw[hs.out,show b.data.toList.drop b.size=[] from List.drop_of_length_le (by rw[Lib.size_eq];exact Nat.le_refl _)]
    cases (a.data.toList.drop b.size)<;>rfl
  ·obtain rfl:k=a.size:=by omega
   have h1':¬(a.size:Int)<a.size:=by omega
   go_wp2_with fail
   go_region
   go_wp2_with fail
   go_ret
   refine⟨?_,hbr.out.drew⟩;rw[hs.out,show a.data.toList.drop a.size=[] from List.drop_of_length_le (by rw[Lib.size_eq];exact Nat.le_refl _)];rfl
theorem add_off (g off i:Nat):(⟨g,off,none⟩:Addr).add i=⟨g,off+i,none⟩:=by cases i<;>simp[Addr.add]
set_option maxRecDepth 100000 in
set_option maxHeartbeats 4000000 in
theorem BAdd_err {w:World}{B g t off:Nat}{cs:Array Value}{s:BB}{vb vs:Value}(h:BBAt w B g t off cs s vb vs)(k v:ByteArray)(he:s.err k.data.toList v.data.toList≠0) :
  Calls Tryz.prog 105 #[.pointer (some ⟨g,off,none⟩),.string k,.string v] w fun e w'=>e=.returned (.int .i64 (s.err k.data.toList v.data.toList:Nat))∧Below w.heap.size w w':=by
 have c2:=(h.blk.cell (off+2)).trans h.e2;have c3:=(h.blk.cell (off+3)).trans h.e3;have hlt:=h.blk.lt;have hlk:k.data.toList.length=k.size:=(Lib.size_eq k).symm;have hlv:v.data.toList.length=v.size:=(Lib.size_eq v).symm
 have hle:(Op.bytesLess k.toList (bs s.last).toList||k.toList==(bs s.last).toList)=!(lessL s.last k.data.toList):=by
  rw[bs_toList,ByteArray.toList_eq];exact less_tri _ _
 by_cases hlong:1024<k.size∨1024<v.size
 ·have hE:s.err k.data.toList v.data.toList=3:=by unfold BB.err;rw[hlk,hlv,if_pos hlong]
  rw[hE];clear hE he hle
  go_enter Tryz.func105,Tryz.ntmps105
  by_cases h1:1024<k.size
  ·have h1':(1024:Int)<k.size:=by omega
   go_wp2_with fail
   go_ret
   exact⟨rfl,Below.refl _ _⟩
  ·have h1':¬(1024:Int)<k.size:=by omega
   have h2':(1024:Int)<v.size:=by omega
   go_wp2_with fail
   go_ret
   exact⟨rfl,Below.refl _ _⟩
 ·have h1':¬(1024:Int)<k.size:=by omega
  have h2':¬(1024:Int)<v.size:=by omega
  have hE:s.err k.data.toList v.data.toList=1∧0<s.count∧lessL s.last k.data.toList=false:=by
   unfold BB.err at he ⊢;rw[hlk,hlv,if_neg hlong] at he ⊢
   split at he
   ·rename_i hh
    exact⟨by rw[if_pos hh],hh⟩
   ·exact absurd rfl he
  obtain⟨hE,hc,hl⟩:=hE;rw[hl] at hle
  have hc':(0:Int)<s.count:=by omega
  rw[hE];clear hE he hl hlong;replace hlk:=Lib.hid hlk;replace hlv:=Lib.hid hlv
  go_enter Tryz.func105,Tryz.ntmps105
  go_wp2_with fail
  go_ret
  exact⟨rfl,Below.refl _ _⟩
theorem u64_info:(Tryz.prog.info? 34).map (fun i=>(i.zero,i.size,i.bytes))=some (some (.int .u64 0),1,8):=by kernel_rfl
def ptCells (ps:List Pt):List Value:=ps.flatMap fun p=>[.bool p.text,.string (bs p.s),.int .u64 (p.n:Nat)]
theorem ptCells_snoc (ps:List Pt)(p:Pt):ptCells (ps++[p])=ptCells ps++[.bool p.text,.string (bs p.s),.int .u64 (p.n:Nat)]:=by simp[ptCells]
def OwnPt (w:World)(B:Nat)(v:Value)(ps:List Pt):Prop:=w.ownsRow B 188 3 v ps.length (ptCells ps)
theorem OwnPt.form {w:World}{B:Nat}{v:Value}{l:List Pt}(h:OwnPt w B v l):∃A cap,v=.slice A l.length cap:=by
 rcases h.2 with⟨rfl,e⟩ | ⟨g,cap,cur,rfl,_⟩
 ·exact⟨none,0,by rw[e]⟩
 ·exact⟨_,cap,rfl⟩
theorem OwnPt.below {w w':World}{B:Nat}{v:Value}{l:List Pt}(h:OwnPt w B v l)(hb:Below w.heap.size w w'):OwnPt w' B v l:=own_block h (fun k hk=>hb.block k (own_lt h k hk).2)
theorem OwnPt.of_law {w:World}{B n:Nat}{v:Value}{l:List Pt}{p:Pt}(h:w.ownsRow B 188 3 v n (ptCells l++[.bool p.text,.string (bs p.s),.int .u64 (p.n:Nat)]))(hn:n=l.length+1):OwnPt w B v (l++[p]):=by
 subst hn;unfold OwnPt;rw[ptCells_snoc,List.length_append];exact h
theorem part_info:(Tryz.prog.info? 188).map (fun i=>(i.zero,i.size,i.bytes))=some (some (.agg #[.bool false,.string ⟨#[]⟩,.int .u64 0]),3,32):=by kernel_rfl
theorem reads3p (w:World)(t:TypeId)(a b c:Value):Reads (w.alloc (.cells #[a,b,c] t)) (w.heap.size+1) 3 (some ⟨w.heap.size,0,none⟩) 1 [a,b,c]:=by
 refine⟨rfl,fun _=>⟨_,rfl,by simp,fun j u hu=>?_⟩⟩;rw[add_off,Nat.zero_add,(Blk.new w t #[a,b,c]).cell j]
 simpa using hu
theorem cut_any (c:UInt8)(r:L)(x:UInt8)(w:World):Calls Tryz.prog 63 #[.string (bs (c::r)),.string ⟨#[x]⟩] w fun e w'=>e=.returned (.tuple #[.string (bs (if c=x then r else c::r)),.bool (decide (c=x))])∧w'=w:=by
 have h:=Tryz.strings_CutPrefix (bs (c::r)) ⟨#[x]⟩ w
 have e1:Lib.hasPrefix (c::r) [x]=decide (c=x):=by
  unfold Lib.hasPrefix
  by_cases hc:c=x
  ·subst hc;simp[List.isPrefixOf]
  ·have:¬x=c:=fun e=>hc e.symm;simp[List.isPrefixOf,hc,this]
 have e2:Lib.trimPrefix (c::r) [x]=if c=x then r else c::r:=by
  unfold Lib.trimPrefix;rw[e1]
  by_cases hc:c=x<;>simp[hc]
 rw[bs_data,show (⟨#[x]⟩:ByteArray).data.toList=[x] from rfl,e1,e2] at h;exact h
def PartsIs (B:Nat)(o:Option (List Pt))(e:Ending)(w':World):Prop:=match o with
 | none=>e=.returned (.tuple #[.slice none 0 0,.bool false])
 | some ps=>∃v,e=.returned (.tuple #[v,.bool true])∧OwnPt w' B v ps
theorem PartsIs.none_ {B:Nat}{o:Option (List Pt)}{w':World}(h:o=none):PartsIs B o (.returned (.tuple #[.slice none 0 0,.bool false])) w':=by subst h;rfl
theorem PartsIs.some_ {B:Nat}{o:Option (List Pt)}{w':World}{ps:List Pt}{v:Value}(h:o=some ps)(hv:OwnPt w' B v ps):PartsIs B o (.returned (.tuple #[v,.bool true])) w':=by subst h;exact⟨v,rfl,hv⟩
theorem ReadVar_bs (l:L)(w:World)(hs:l.length≤1073741824):(readVar l=none→Calls Tryz.prog 122 #[.string (bs l)] w fun e w'=>e=.returned (.tuple #[.int .u64 0,.int .i64 0,.bool false])∧Below w.heap.size w w') ∧
  (∀n k,readVar l=some (n,k)→Calls Tryz.prog 122 #[.string (bs l)] w fun e w'=>e=.returned (.tuple #[.int .u64 n,.int .i64 k,.bool true])∧Below w.heap.size w w') :=
 ⟨fun h=>ReadVar_none (bs l) w (by rw[bs_size];unfold maxLen;omega) (by rw[bs_data];exact h),fun n k h=>ReadVar_some (bs l) n k w (by rw[bs_size];unfold maxLen;omega) (by rw[bs_data];exact h)⟩
set_option maxRecDepth 100000 in
set_option maxHeartbeats 4000000 in
theorem Parts_any (s:ByteArray)(w:World)(hs:s.size≤1048576) :
  Calls Tryz.prog 124 #[.string s] w fun e w'=>PartsIs w.heap.size (partsP s.data.toList) e w'∧Below w.heap.size w w':=by
 obtain⟨i0,hi0,hz0,hz1,hz2⟩:=info_parts part_info
 go_enter Tryz.func124,Tryz.ntmps124
 go_wp2_with fail
 go_loopw [0,4] (fun sv ov wr=>∃cur ps f,sv=.string (bs cur)∧OwnPt wr w.heap.size ov ps∧cur.length≤f∧partsP s.data.toList=partsF f cur ps∧ps.length+cur.length≤s.size∧Below w.heap.size w wr) (fun sv _ _=>strLen sv)
 case atStart=>exact⟨s.data.toList,[],s.data.toList.length,by rw[bs_of],World.ownsRow_nil _ _ _ 3,Nat.le_refl _,rfl,by rw[dlen];exact Nat.le_of_eq (Nat.zero_add _),Below.refl _ _⟩
 case round =>
  obtain⟨cur,ps,f,rfl,ho,hcf,hR,hle,hbr⟩:=hrel;obtain⟨Ap,cp,rfl⟩:=ho.form;have hzr:=hbr.size;rcases cur with _ | ⟨c,r⟩
  ·have hfin:partsP s.data.toList=some ps:=hR.trans (by cases f<;>rfl)
   have he:((bs ([]:L)).toList==([]:L))=true:=by rw[bs_toList];rfl
   have he2:(bs ([]:L)).toList=[]:=by rw[bs_toList]
   replace hfin:=Lib.hid hfin;replace hR:=Lib.hid hR;go_wp2_with fail
   go_ret2
   exact⟨PartsIs.some_ hfin.out ho,hbr⟩
  ·obtain⟨f,rfl⟩:∃f',f=f'+1:=⟨f-1,by simp at hcf;omega⟩
   have hne:(bs (c::r)).toList≠[]:=by rw[bs_toList];simp
   have hie:((bs (c::r)).toList==([]:L))=false:=by rw[bs_toList];rfl
   have hcut1:=cut_any c r 1;have hcut2:=cut_any c r 2;simp only[List.length_cons] at hle hcf
   have hrl:r.length≤1073741824:=by omega
   replace hR:=Lib.hid hR
   by_cases h1:c=1
   ·simp only[h1,if_true,decide_true] at hcut1;subst h1;replace hcut1:=Lib.hid hcut1;clear hcut2
    cases hv:readVar r with
    | none =>
     have hN:partsP s.data.toList=none:=by rw[hR.out,partsF,if_pos rfl,hv]
     have hrv:=Lib.hid ((ReadVar_bs r wr hrl).1 hv);replace hv:=Lib.hid hv;replace hN:=Lib.hid hN;go_wp2_with fail
     refine (hcut1.out wr).mono ?_;rintro e w1 ⟨rfl,rfl⟩;go_wp2_with fail
     refine hrv.out.mono ?_;rintro e w2 ⟨rfl,hb2⟩;go_wp2_with fail
     go_ret2
     exact⟨PartsIs.none_ hN.out,hbr.trans (hb2.mono hzr)⟩
    | some q =>
     obtain⟨n,z⟩:=q;obtain⟨z1,z2,hn⟩:=readVar_le hv
     have hN:partsP s.data.toList=partsF f (r.drop z) (ps++[⟨false,[],n⟩]):=by rw[hR.out,partsF,if_pos rfl,hv]
     have hrv:=Lib.hid ((ReadVar_bs r wr hrl).2 n z hv);have hrs:(bs r).size=r.length:=bs_size r
     have hex:(bs r).extract z (bs r).size=bs (r.drop z):=by rw[bs_ext,List.take_of_length_le (by simp;omega)]
     have hnum:=Lib.hid (show ∀w,Calls Tryz.prog 166 #[.int .u64 (n:Nat)] w (fun e w'=>e=.returned (.agg #[.bool false,.string ⟨#[]⟩,.int .u64 (n:Nat)])∧Below w.heap.size w w') from fun w=>Num_any n w hn);replace hv:=Lib.hid hv;replace hN:=Lib.hid hN;replace hrs:=Lib.hid hrs
     have hzs:(z:Int)≤((bs r).size:Nat):=by rw[hrs.out];omega
     go_wp2_with fail
     refine (hcut1.out wr).mono ?_;rintro e w1 ⟨rfl,rfl⟩;go_wp2_with fail
     refine hrv.out.mono ?_;rintro e w2 ⟨rfl,hb2⟩;have ho2:=ho.below hb2;go_wp2_with fail
     have hxc:=@Ext.cell;have hxf:=@Ext.frozen;refine wp_hide (fun Q0 hQ0=>?_);refine wp_region_line (fun w'=>∃x:Ext _,w'=x.w) [some false,some false,some false,none,none,some true,some true,some true,none,none] 1 (by kernel_rfl) (by kernel_rfl) ⟨⟨_,(Below.refl _ _).drew⟩,rfl⟩ ?_;simp only[earlyL,tailL]
     repeat (first | ((with_reducible refine wpMix_p ?_);go_big_quiet_step (fail);refine wpQuiet_nil ?_) | ((with_reducible refine wpMix_e ?_);go_big_quiet_step ((first | (go_at_call 166;exact Calls.ext (hnum.out _))));refine wpQuiet_nil ?_))
     refine wpMix_nil ?_;clear hxc hxf;intro wx hwx;obtain⟨x,hx⟩:=hwx;have hb:=x.below;rw[←hx] at hb;clear hx x;have hbs:=hb.size;have ho3:=ho2.below hb;have hownx:=World.ownsRow.alloc ho3 (.cells #[.bool false,.string ⟨#[]⟩,.int .u64 (n:Nat)] 188);have hrd:=reads3p wx 188 (.bool false) (.string ⟨#[]⟩) (.int .u64 (n:Nat))
     have hone:∀u∈[Value.bool false,.string ⟨#[]⟩,.int .u64 (n:Nat)],u.oneCell'=true:=by
      intro u hu;simp at hu
      rcases hu with rfl | rfl | rfl<;>rfl
     have hBx:w.heap.size≤(wx.alloc (.cells #[.bool false,.string ⟨#[]⟩,.int .u64 (n:Nat)] 188)).heap.size:=by rw[World.size_alloc];have:=hb2.size;omega
     have hbw2:=hbr.trans (hb2.mono hzr);have hbwx:=hbw2.trans (hb.mono hbw2.size);replace hone:=Lib.hid hone;replace hbwx:=Lib.hid hbwx;clear ho ho2 ho3;refine wpTail_step ?_;intro Q1 hQ1;go_wp2_with fail
     refine hQ1 _ _ rfl (fun _=>⟨⟨_,hb.alloc hbs _⟩,rfl⟩) ?_;clear hQ1 Q1;refine wpTail_step ?_;intro Q1 hQ1
     go_wp2_with (at_builtin;refine wpList_append_any _ rfl (.tmp 29) (.tmp 32) 184 rfl w.heap.size 188 i0 (.agg #[.bool false,.string ⟨#[]⟩,.int .u64 0]) 3 32 Tryz.underlying184 hi0 hz0 hz1 hz2 rfl (by omega) (.slice Ap ps.length cp) ps.length (ptCells ps) rfl hownx (wx.heap.size+1) (some ⟨wx.heap.size,0,none⟩) 1 1 [.bool false,.string ⟨#[]⟩,.int .u64 (n:Nat)] rfl hrd hone.out (by unfold maxLen;omega) (by omega) hBx ?_;intro v4 w4 hown4 hgr4 hat4)
     refine hQ1 _ _ rfl (fun h=>absurd h (by decide)) ?_;clear hQ1 Q1;have ho4:=OwnPt.of_law (p:=⟨false,[],n⟩) hown4 rfl;have hb4:=(hbwx.out.alloc (by have:=hb2.size;omega) (.cells #[.bool false,.string ⟨#[]⟩,.int .u64 (n:Nat)] 188)).grown hgr4 hBx (fun k hk=>(own_lt hownx k hk).1);replace ho4:=Lib.hid ho4;replace hb4:=Lib.hid hb4;clear hown4 hgr4 hat4 hownx hrd;refine wpTail_step ?_;intro Q1 hQ1
     go_wp2_with (fail)
     refine hQ1 _ _ rfl (fun h=>absurd h (by decide)) ?_;clear hQ1 Q1;refine wpTail_step ?_;intro Q1 hQ1
     go_wp2_with (fail)
     refine hQ1 _ _ rfl (fun h=>absurd h (by decide)) ?_;clear hQ1 Q1;refine wpTail_nil ?_;refine hQ0 _ _ ?_;clear hQ0 Q0;go_wp2_with fail
     refine⟨⟨r.drop z,ps++[⟨false,[],n⟩],f,rfl,ho4.out,by simp;omega,hN.out,by simp;omega,hb4.out⟩,?_⟩;simp only[strLen];rw[bs_size,bs_size];simp;omega
   ·simp only[h1,if_false,decide_false] at hcut1
    by_cases h2:c=2
    ·simp only[h2,if_true,decide_true] at hcut2;rw[h2] at hcut1;have hrt:=fun w=>readTextK_any (bs r) w (by rw[bs_size];omega);rw[bs_data] at hrt;subst h2;replace hcut1:=Lib.hid hcut1;replace hcut2:=Lib.hid hcut2
     cases hv:rtK r [] with
     | none =>
      have hN:partsP s.data.toList=none:=by rw[hR.out,partsF,if_neg h1,if_pos rfl,hv]
      rw[hv] at hrt;unfold rtV at hrt;simp only[] at hrt;replace hrt:=Lib.hid hrt;replace hv:=Lib.hid hv;replace hN:=Lib.hid hN;go_wp2_with fail
      refine (hcut1.out wr).mono ?_;rintro e w1 ⟨rfl,rfl⟩;go_wp2_with fail
      refine (hcut2.out w1).mono ?_;rintro e w2 ⟨rfl,rfl⟩;go_wp2_with fail
      refine (hrt.out w2).mono ?_;rintro e w3 ⟨rfl,hb3⟩;go_wp2_with fail
      go_ret2
      exact⟨PartsIs.none_ hN.out,hbr.trans (hb3.mono hzr)⟩
     | some q =>
      obtain⟨tx,rest⟩:=q
      have hN:partsP s.data.toList=partsF f rest (ps++[⟨true,tx,0⟩]):=by rw[hR.out,partsF,if_neg h1,if_pos rfl,hv]
      have hlen:=rtK_len r [] tx rest hv;rw[hv] at hrt;unfold rtV at hrt;simp only[] at hrt;have hstr:=Lib.hid (show ∀w,Calls Tryz.prog 143 #[.string (bs tx)] w (fun e w'=>e=.returned (.agg #[.bool true,.string (bs tx),.int .u64 0])∧Below w.heap.size w w') from fun w=>Str_any (bs tx) w);replace hrt:=Lib.hid hrt;replace hv:=Lib.hid hv;replace hN:=Lib.hid hN;go_wp2_with fail
      refine (hcut1.out wr).mono ?_;rintro e w1 ⟨rfl,rfl⟩;go_wp2_with fail
      refine (hcut2.out w1).mono ?_;rintro e w2 ⟨rfl,rfl⟩;go_wp2_with fail
      refine (hrt.out w2).mono ?_;rintro e w3 ⟨rfl,hb3⟩;have ho3:=ho.below hb3;go_wp2_with fail
      refine (hstr.out w3).mono ?_;rintro e wx ⟨rfl,hb⟩;have ho5:=ho3.below hb;have hownx:=World.ownsRow.alloc ho5 (.cells #[.bool true,.string (bs tx),.int .u64 0] 188);have hrd:=reads3p wx 188 (.bool true) (.string (bs tx)) (.int .u64 0)
      have hone:∀u∈[Value.bool true,.string (bs tx),.int .u64 0],u.oneCell'=true:=by
       intro u hu;simp at hu
       rcases hu with rfl | rfl | rfl<;>rfl
      have hbs3:=hb3.size;have hbs:=hb.size
      have hBx:w.heap.size≤(wx.alloc (.cells #[.bool true,.string (bs tx),.int .u64 0] 188)).heap.size:=by rw[World.size_alloc];omega
      have hbw3:=hbr.trans (hb3.mono hzr);have hbwx:=hbw3.trans (hb.mono hbw3.size);replace hone:=Lib.hid hone;replace hbwx:=Lib.hid hbwx;clear ho ho3 ho5
      go_wp2_with (at_builtin;refine wpList_append_any _ rfl (.tmp 52) (.tmp 55) 184 rfl w.heap.size 188 i0 (.agg #[.bool false,.string ⟨#[]⟩,.int .u64 0]) 3 32 Tryz.underlying184 hi0 hz0 hz1 hz2 rfl (by omega) (.slice Ap ps.length cp) ps.length (ptCells ps) rfl hownx (wx.heap.size+1) (some ⟨wx.heap.size,0,none⟩) 1 1 [.bool true,.string (bs tx),.int .u64 0] rfl hrd hone.out (by unfold maxLen;omega) (by omega) hBx ?_;intro v4 w4 hown4 hgr4 hat4)
      have ho4:=OwnPt.of_law (p:=⟨true,tx,0⟩) hown4 rfl;have hb4:=(hbwx.out.alloc (by omega) (.cells #[.bool true,.string (bs tx),.int .u64 0] 188)).grown hgr4 hBx (fun k hk=>(own_lt hownx k hk).1);refine⟨⟨rest,ps++[⟨true,tx,0⟩],f,rfl,ho4,by omega,hN.out,by simp;omega,hb4⟩,?_⟩;simp only[strLen];rw[bs_size,bs_size];simp;omega
    ·simp only[h2,if_false,decide_false] at hcut2
     have hN:partsP s.data.toList=none:=by rw[hR.out,partsF,if_neg h1,if_neg h2]
     replace hcut1:=Lib.hid hcut1;replace hcut2:=Lib.hid hcut2;replace hN:=Lib.hid hN;go_wp2_with fail
     refine (hcut1.out wr).mono ?_;rintro e w1 ⟨rfl,rfl⟩;go_wp2_with fail
     refine (hcut2.out w1).mono ?_;rintro e w2 ⟨rfl,rfl⟩;go_wp2_with fail
     go_ret2
     exact⟨PartsIs.none_ hN.out,hbr⟩
set_option maxRecDepth 100000 in
set_option maxHeartbeats 4000000 in
theorem big_any (n:Nat)(w:World)(hn:n<4294967296) :
  Calls Tryz.prog 128 #[.int .i64 (n:Nat)] w fun e w'=>e=.returned (.string (bs (bigL n 4)))∧Below w.heap.size w w':=by
 have hw1:IntKind.u64.wrap ((n:Nat):Int)=(n:Nat):=by rw[IntKind.wrap_u64];omega
 have hbg:=Lib.hid (Big_any n 4 w (by decide) (by decide) hn)
 go_enter Tryz.func128,Tryz.ntmps128
 go_wp2_with fail
 refine hbg.out.mono ?_;rintro e w1 ⟨rfl,hb1⟩;go_wp2_with fail
 go_ret
 exact⟨rfl,hb1⟩
set_option maxRecDepth 100000 in
set_option maxHeartbeats 4000000 in
theorem big_x (n:Nat)(w:World)(hn:n≤9223372036854775807) :
  Calls Tryz.prog 128 #[.int .i64 (n:Nat)] w fun e w'=>e=.returned (.string (bs (bigX n)))∧Below w.heap.size w w':=by
 have hw1:IntKind.u64.wrap ((n:Nat):Int)=(n:Nat):=by rw[IntKind.wrap_u64];omega
 have hbg:=Lib.hid (Big_x n w (by omega))
 go_enter Tryz.func128,Tryz.ntmps128
 go_wp2_with fail
 refine hbg.out.mono ?_;rintro e w1 ⟨rfl,hb1⟩;go_wp2_with fail
 go_ret
 exact⟨rfl,hb1⟩
theorem xor_max (x:Nat)(h:x<18446744073709551616):18446744073709551615 ^^^ x=18446744073709551615-x:=by
 have h':x<2 ^ 64:=h
 have e1:(18446744073709551615:Nat)=2 ^ 64-1:=by decide
 have e2:18446744073709551615-x=2 ^ 64-(x+1):=by omega
 rw[e2];apply Nat.eq_of_testBit_eq
 intro i;rw[Nat.testBit_two_pow_sub_succ h',Nat.testBit_xor,e1,Nat.testBit_two_pow_sub_one]
 by_cases hi:i<64
 ·simp[hi]
 ·have:x.testBit i=false:=Nat.testBit_lt_two_pow (Nat.lt_of_lt_of_le h' (Nat.pow_le_pow_right (by omega) (by omega)));simp[hi,this]
theorem not_u64 (x:Nat)(h:x<18446744073709551616):bits .xor .u64 (IntKind.u64.max:Int) ((x:Nat):Int)=((18446744073709551615-x:Nat):Int):=by
 have e:(IntKind.u64.max:Int)=((18446744073709551615:Nat):Int):=by decide
 rw[e,u64_xor_nat _ _ (by decide) h,xor_max x h]
set_option maxRecDepth 100000 in
set_option maxHeartbeats 400000 in
theorem Internal_any (key:ByteArray)(seq:Nat)(w:World)(hG:Gl w)(hk:key.size≤1048576)(hs:seq<18446744073709551616) :
  Calls Tryz.prog 104 #[.string key,.int .u64 (seq:Nat)] w fun e w'=>e=.returned (.string (bs (internalL key.data.toList seq)))∧Below w.heap.size w w':=by
 have hx:=not_u64 seq hs
 have hx2:18446744073709551615-seq<256 ^ 8:=by
  have:(256:Nat) ^ 8=18446744073709551616:=by decide
  omega
 have hI:internalL key.data.toList seq=strKey key.data.toList++bigL (18446744073709551615-seq) 8:=rfl;have hG1:=hG.lt;have hel:=escL_len key.data.toList;rw[dlen] at hel
 generalize 18446744073709551615-seq=q at *
 have hbg:=Lib.hid (Big_any q 8 w (by decide) (by decide) hx2)
 have hsl:(bs (strKey key.data.toList)).size=(escL key.data.toList).length+3:=by rw[bs_size];simp[strKey]
 have hql:(bs (bigL q 8)).size=8:=by rw[bs_size,bigL_len]
 replace hI:=Lib.hid hI;clear hx2
 go_enter Tryz.func104,Tryz.ntmps104
 go_wp2_with fail
 refine hbg.out.mono ?_;rintro e w1 ⟨rfl,hb1⟩;have hstr:=Lib.hid (show ∀w,Calls Tryz.prog 143 #[.string key] w (fun e w'=>e=.returned (.agg #[.bool true,.string key,.int .u64 0])∧Below w.heap.size w w') from fun w=>Str_any key w);go_wp2_with fail
 refine (hstr.out w1).mono ?_;rintro e w2 ⟨rfl,hb2⟩;have hb02:=hb1.trans (hb2.mono hb1.size);have hG2:=(hG.below hb02 hG1).below ((Below.refl _ _).alloc (Nat.le_refl _) (.cells #[.bool true,.string key,.int .u64 0] 188)) (by have:=hb02.size;omega);have hbk:=Blk.new w2 188 #[.bool true,.string key,.int .u64 0];have hkey:=Lib.hid (KeyS_any w2.heap.size key _ hG2 (hbk.cell 0) (hbk.cell 1) (hbk.cell 2) (by omega));go_wp2_with fail
 refine hkey.out.mono ?_;rintro e w3 ⟨rfl,hb3⟩;have hb03:=(hb02.alloc hb02.size (.cells #[.bool true,.string key,.int .u64 0] 188)).trans (hb3.mono (by rw[World.size_alloc];have:=hb02.size;omega));go_wp2_with fail
 go_ret
 refine⟨?_,hb03⟩;rw[hI.out,←bs_append];rfl
end Go.Proofs.YtlpojfgeocpkeaaGreatDoor
