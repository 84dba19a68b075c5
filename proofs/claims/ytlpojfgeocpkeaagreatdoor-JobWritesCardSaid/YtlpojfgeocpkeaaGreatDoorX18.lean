/- block.Builder: Count, Size, Finish. block: next. Contracts: table: entry. table.Builder in memory; New, bad. -/
import Derived.Test.YtlpojfgeocpkeaaGreatDoorTBA2J
import Derived.Test.YtlpojfgeocpkeaaGreatDoorX08
import Derived.Deep.AppendSrc
import Derived.Deep.Upon
import Derived.Test.YtlpojfgeocpkeaaGreatDoorX15
import Derived.Laws.ResultCell
namespace Go.Proofs.YtlpojfgeocpkeaaGreatDoor
open Go.RowKit
set_option linter.unusedVariables false
set_option linter.unusedSimpArgs false
set_option maxRecDepth 100000 in
set_option maxHeartbeats 4000000 in
theorem BCount_any {w:World}{B g t off:Nat}{cs:Array Value}{s:BB}{vb vs:Value}(h:BBAt w B g t off cs s vb vs) :
  Calls Tryz.prog 125 #[.pointer (some ⟨g,off,none⟩)] w fun e w'=>e=.returned (.int .i64 s.count)∧Below w.heap.size w w':=by
 have c2:=(h.blk.cell (off+2)).trans h.e2;have hlt:=h.blk.lt
 go_enter Tryz.func125,Tryz.ntmps125
 go_wp2_with fail
 go_ret
 exact⟨rfl,Below.refl _ _⟩
set_option maxRecDepth 100000 in
set_option maxHeartbeats 4000000 in
theorem BSize_any {w:World}{B g t off:Nat}{cs:Array Value}{s:BB}{vb vs:Value}(h:BBAt w B g t off cs s vb vs)(hbl:s.b.length≤1099511627776)(hst:s.starts.length≤1099511627776) :
  Calls Tryz.prog 106 #[.pointer (some ⟨g,off,none⟩)] w fun e w'=>e=.returned (.int .i64 (s.size:Nat))∧Below w.heap.size w w':=by
 obtain⟨Ab,cb,rfl⟩:=h.ob.form;obtain⟨As,cas,rfl⟩:=h.os.form;have c0:=(h.blk.cell off).trans h.e0;have c1:=(h.blk.cell (off+1)).trans h.e1;have hlt:=h.blk.lt
 go_enter Tryz.func106,Tryz.ntmps106
 go_wp2_with fail
 go_region
 go_wp2_with fail
 go_ret
 refine⟨congrArg Ending.returned (congrArg (Value.int .i64) ?_),(Below.refl _ _).drew⟩;unfold BB.size;omega
def foursX (l:List Nat):L:=l.flatMap bigX
theorem foursX_le (l:List Nat):(foursX l).length≤4*l.length:=by
 induction l with
 | nil=>simp[foursX]
 | cons a l ih =>
  have:=bigX_le a;simp only[foursX,List.flatMap_cons,List.length_append,List.length_cons] at ih ⊢;omega
def BB.outX (s:BB):L:=s.b++foursX (s.starts++[s.count])
theorem foursX_eq:∀ {l:List Nat},(∀n∈l,n<4294967296)→foursX l=fours l
 | [],_=>rfl
 | a::l,h=>by
  have h1:=foursX_eq (l:=l) (fun n hn=>h n (List.mem_cons_of_mem _ hn));unfold foursX fours at h1 ⊢;rw[List.flatMap_cons,List.flatMap_cons,h1,bigX_of (h a (List.mem_cons_self ..))]
theorem BB.outX_eq {s:BB}(hn:∀n∈s.starts,n<4294967296)(hc:s.count<4294967296):s.outX=s.out:=by
 unfold BB.outX BB.out;rw[foursX_eq];intro n hm;rcases List.mem_append.1 hm with hm | hm
 ·exact hn n hm
 ·simp at hm;rw[hm];exact hc
theorem BB.outX_le (s:BB):s.outX.length≤s.b.length+4*(s.starts.length+1):=by
 unfold BB.outX;have:=foursX_le (s.starts++[s.count]);simp only[List.length_append,List.length_singleton] at this ⊢;omega
set_option maxRecDepth 100000 in
set_option maxHeartbeats 4000000 in
theorem BFinish_x {w:World}{B g t off:Nat}{cs:Array Value}{s:BB}{vb vs:Value}(h:BBAt w B g t off cs s vb vs)(hB:B≤w.heap.size)(hbl:s.b.length≤1099511627776)(hst:s.starts.length≤1099511627776)(hn:∀n∈s.starts,n<9223372036854775807)(hc:s.count<9223372036854775807) :
  Calls Tryz.prog 127 #[.pointer (some ⟨g,off,none⟩)] w fun e w'=>e=.returned (.string (bs s.outX))∧BBAt w' B g t off (setBB cs off (.slice none 0 0) (.slice none 0 0) BB.new) BB.new (.slice none 0 0) (.slice none 0 0)∧KeptBut w w' (BS g vb vs):=by
 obtain⟨i0,hi0,hz0,hz1,hz2⟩:=info_parts u64_info;obtain⟨Ab,cb,rfl⟩:=h.ob.form;obtain⟨As,cas,rfl⟩:=h.os.form;have c0:=(h.blk.cell off).trans h.e0;have c1:=(h.blk.cell (off+1)).trans h.e1;have c2:=(h.blk.cell (off+2)).trans h.e2;have hlt:=h.blk.lt;replace hn:=Lib.hid hn
 have hcw:IntKind.u64.wrap ((s.count:Nat):Int)=((s.count:Nat):Int):=by rw[IntKind.wrap_u64];omega
 go_enter Tryz.func127,Tryz.ntmps127
 go_wp2_with fail
 have hxc:=@Ext.cell;have hxf:=@Ext.frozen;refine wp_hide (fun Q0 hQ0=>?_);refine wp_region_line (fun w'=>∃x:Ext _,w'=x.w) [some false,some false,some false,some false,some false,some false,some false,some false,some false,none,none,none,some true] 1 (by kernel_rfl) (by kernel_rfl) ⟨⟨_,(Below.refl _ _).drew⟩,rfl⟩ ?_;simp only[earlyL,tailL]
 repeat (first | ((with_reducible refine wpMix_p ?_);go_big_quiet_step (fail);refine wpQuiet_nil ?_) | ((with_reducible refine wpMix_e ?_);go_big_quiet_step ((first | fail));refine wpQuiet_nil ?_))
 refine wpMix_nil ?_;clear hxc hxf;intro wx hwx;obtain⟨x,hx⟩:=hwx;have hb:=x.below;rw[←hx] at hb;clear hx x;have hbs:=hb.size;have hown:=own_block h.os (fun k hk=>hb.block k (own_lt h.os k hk).2);have hownx:=World.ownsRow.alloc hown (.cells #[.int .u64 (s.count:Nat)] 34);have hrd:=new_u64 wx (s.count:Nat) 34
 have hone:∀u∈[Value.int .u64 (s.count:Nat)],u.oneCell'=true:=by
  intro u hu;simp at hu;subst hu;rfl
 have hBx:B≤(wx.alloc (.cells #[.int .u64 (s.count:Nat)] 34)).heap.size:=by rw[World.size_alloc];omega
 replace hone:=Lib.hid hone;clear hown;refine wpTail_step ?_;intro Q1 hQ1;go_wp2_with fail
 refine hQ1 _ _ rfl (fun _=>⟨⟨_,hb.alloc hbs _⟩,rfl⟩) ?_;clear hQ1 Q1;refine wpTail_step ?_;intro Q1 hQ1
 go_wp2_with (at_builtin;refine wpList_append_any _ rfl (.tmp 17) (.tmp 23) 155 rfl B 34 i0 (.int .u64 0) 1 8 Tryz.underlying155 hi0 hz0 hz1 hz2 rfl (by omega) (.slice As s.starts.length cas) s.starts.length (s.starts.map fun n=>Value.int .u64 (n:Nat)) rfl hownx (wx.heap.size+1) (some ⟨wx.heap.size,0,none⟩) 1 1 [.int .u64 (s.count:Nat)] rfl hrd hone.out (by unfold maxLen;omega) (by omega) hBx ?_;intro v2 w2 hown2 hgr2 hat2)
 refine hQ1 _ _ rfl (fun h=>absurd h (by decide)) ?_;clear hQ1 Q1;have ho2:=OwnW.of_law hown2
 obtain⟨gs,c2',e2⟩:∃gs c2',v2=.slice (some ⟨gs,0,none⟩) (s.starts.length+1) c2':=by
  rcases ho2.2 with⟨_,e⟩ | ⟨g,cap,cur,e,_⟩
  ·simp at e
  ·exact⟨g,cap,by rw[e];simp⟩
 subst e2
 have hk2:KeptBut w w2 (fun k=>(Value.slice As s.starts.length cas).ownBlock=some k):=(KeptBut.of_below (hb.alloc hbs _)).then_grown hgr2 (fun k e=>e)
 have hB2:Blk w2 g t cs:=h.blk.keptB hk2 h.gs;have hO2:OwnB w2 B (.slice Ab s.b.length cb) s.b:=own_kept h.ob hk2 h.nbs;have hgs2:gs<w2.heap.size:=(own_lt ho2 gs rfl).2;have hgsn:(Value.slice Ab s.b.length cb).ownBlock≠some gs:=fun e=>own_types hO2 ho2 (by decide) gs e rfl;have hcs2:=ho2.cells (g:=gs) rfl;replace hk2:=Lib.hid hk2;replace hB2:=Lib.hid hB2;replace hcs2:=Lib.hid hcs2;replace ho2:=Lib.hid ho2;replace hO2:=Lib.hid hO2;clear hown2 hgr2 hat2 hownx hrd hone;refine wpTail_step ?_;intro Q1 hQ1
 go_wp2_with (fail)
 refine hQ1 _ _ rfl (fun h=>absurd h (by decide)) ?_;clear hQ1 Q1;refine wpTail_nil ?_;refine hQ0 _ _ ?_;clear hQ0 Q0;go_wp2_with fail
 go_loopw [3,26] (fun v i wr=>∃k:Nat,k≤s.starts.length+1∧i=.int .i64 k∧OwnB wr B v (s.b++foursX ((s.starts++[s.count]).take k))∧(∀q,v.ownBlock=some q→(Value.slice Ab s.b.length cb).ownBlock=some q∨w2.heap.size≤q)∧KeptBut w2 wr (fun j=>(Value.slice Ab s.b.length cb).ownBlock=some j)) (fun _ i _=>s.starts.length+1-(intOf i).toNat)
 case atStart=>exact⟨0,Nat.zero_le _,rfl,by simpa[foursX] using hO2.out,fun q e=>.inl e,KeptBut.refl _ _⟩
 case round =>
  obtain⟨k,hk,rfl,hov,hmv,hkr⟩:=hrel
  by_cases hlt2:k<s.starts.length+1
  ·have hlt2':(k:Int)<s.starts.length+1:=by omega
   have hkl:k<(s.starts++[s.count]).length:=by simp;omega
   obtain⟨n,hnk⟩:∃n,(s.starts++[s.count])[k]? = some n:=⟨_,List.getElem?_eq_getElem hkl⟩
   have hn4:n<9223372036854775807:=by
    rcases List.mem_append.1 (List.mem_of_getElem? hnk) with hm | hm
    ·exact hn.out n hm
    ·simp at hm;rw[hm];exact hc
   have hcell:=hcs2.out k (.int .u64 (n:Nat)) (by rw[List.getElem?_map,hnk];rfl);rw[add_off,Nat.zero_add] at hcell;have hcr:=(hkr.cell ⟨gs,k,none⟩ hgs2 hgsn).trans hcell;have hzr:=hkr.size
   have htk:foursX ((s.starts++[s.count]).take (k+1))=foursX ((s.starts++[s.count]).take k)++bigX n:=by
    rw[List.take_add_one,hnk];simp[foursX]
   have hfl:=foursX_le ((s.starts++[s.count]).take k);rw[List.length_take] at hfl
   have hlk:(s.b++foursX ((s.starts++[s.count]).take k)).length≤6597069766656:=by
    rw[List.length_append];rw[List.length_append] at hfl;simp only[List.length_singleton] at hfl;omega
   have htk2:s.b++foursX ((s.starts++[s.count]).take (k+1))=(s.b++foursX ((s.starts++[s.count]).take k))++bigX n:=by rw[htk,List.append_assoc]
   generalize s.b++foursX ((s.starts++[s.count]).take k)=lk at *
   replace htk2:=Lib.hid htk2;replace hnk:=Lib.hid hnk;clear htk hfl;obtain⟨Av,cv,rfl⟩:=hov.form;replace hmv:=Lib.hid hmv;replace hkr:=Lib.hid hkr;clear hcell;go_wp2_with fail
   refine (Big_x n _ (by omega)).mono ?_;rintro e w3 ⟨rfl,hb3⟩;have hz3:=hb3.size;have ho3:OwnB w3 B _ _:=own_block hov (fun k hk=>hb3.block k (own_lt hov k hk).2)
   have hsz4:(bs (bigX n)).size≤4:=by rw[bs_size];exact bigX_le n
   have hBw:B≤w3.heap.size:=by have:=h.hB;have:=hk2.out.size;omega
   go_wp2_with (at_builtin;refine wpList_append_str rfl (.tmp 35) (.tmp 36) rfl B (.slice Av lk.length cv) lk rfl ho3 (bs (bigX n)) rfl (by omega) hBw ?_;intro v4 w4 ho4 hg4 hat4)
   rw[bs_data] at ho4
   have hk4:KeptBut wr w4 (fun j=>(Value.slice Av lk.length cv).ownBlock=some j):=(KeptBut.of_below hb3).then_grown hg4 (fun k e=>e)
   have hm4:∀q,v4.ownBlock=some q→(Value.slice Ab s.b.length cb).ownBlock=some q∨w2.heap.size≤q:=fun q e=>by
    rcases hat4 q e with e1 | e1
    ·exact hmv.out q e1
    ·exact .inr (by omega)
   refine⟨⟨k+1,by omega,by go_num,by rw[htk2.out];exact ho4,hm4,hkr.out.trans hk4 (fun j hj e=>?_)⟩,by first | omega | (simp only[intOf];omega)⟩
   rcases hmv.out j e with e1 | e1
   ·exact e1
   ·omega
  ·obtain rfl:k=s.starts.length+1:=by omega
   have hlt2':¬((s.starts.length:Int)+1<s.starts.length+1):=by omega
   have hfin:s.b++foursX ((s.starts++[s.count]).take (s.starts.length+1))=s.outX:=by rw[List.take_of_length_le (by simp)];rfl
   rw[hfin] at hov;obtain⟨Av,cv,rfl⟩:=hov.form;have hBr:=hB2.out.keptB hkr (fun e=>h.gb e);have hBl:=hBr.lt;have z0:=hBr.cell off;rw[h.e0] at z0;have z1:=hBr.cell (off+1);rw[h.e1] at z1;have z2:=hBr.cell (off+2);rw[h.e2] at z2;have z3:=hBr.cell (off+3);rw[h.e3] at z3;have y0:=hBr.frozen off;have y1:=hBr.frozen (off+1);have y2:=hBr.frozen (off+2);have y3:=hBr.frozen (off+3);have o1:=own_set (o:=off) (u:=.slice none 0 0) hov hBr h.tb;have b1:=hBr.set_ off (.slice none 0 0);have o2:=own_set (o:=off+1) (u:=.slice none 0 0) o1 b1 h.tb;have b2:=b1.set_ (off+1) (.slice none 0 0);have o3:=own_set (o:=off+2) (u:=.int .i64 0) o2 b2 h.tb;have b3:=b2.set_ (off+2) (.int .i64 0);have o4:=own_set (o:=off+3) (u:=.string ⟨#[]⟩) o3 b3 h.tb;have b4:=b3.set_ (off+3) (.string ⟨#[]⟩);have hsz:=set_lt h.e3
   have hk5:KeptBut w ((((wr.setCell ⟨g,off,none⟩ (.slice none 0 0)).setCell ⟨g,off+1,none⟩ (.slice none 0 0)).setCell ⟨g,off+2,none⟩ (.int .i64 0)).setCell ⟨g,off+3,none⟩ (.string ⟨#[]⟩)) (BS g (.slice Ab s.b.length cb) (.slice As s.starts.length cas)):=by
    refine KeptBut.then_set (KeptBut.then_set (KeptBut.then_set (KeptBut.then_set (KeptBut.trans (hk2.out.mono (fun k _ e=>.inr (.inr e))) hkr (fun k _ e=>.inr (.inl e))) (.inl rfl)) (.inl rfl)) (.inl rfl)) (.inl rfl)
   have htx:=OwnB.text o4;obtain⟨g0,g1,g2,g3⟩:=setBB_get (cs:=cs) (off:=off) (vb:=.slice none 0 0) (vs:=.slice none 0 0) (s:=BB.new) hsz
   have hfin2:BBAt ((((wr.setCell ⟨g,off,none⟩ (.slice none 0 0)).setCell ⟨g,off+1,none⟩ (.slice none 0 0)).setCell ⟨g,off+2,none⟩ (.int .i64 0)).setCell ⟨g,off+3,none⟩ (.string ⟨#[]⟩)) B g t off (setBB cs off (.slice none 0 0) (.slice none 0 0) BB.new) BB.new (.slice none 0 0) (.slice none 0 0) :=
    ⟨h.hB,b4,g0,g1,g2,g3,OwnB.nil _ _,World.ownsRow_nil _ _ _ 1,h.tb,h.tw⟩
   replace hfin2:=Lib.hid hfin2;replace hk5:=Lib.hid hk5;clear o1 o2 o3 o4 b1 b2 b3 b4 hov hBr;go_wp2_with fail
   go_ret
   exact⟨rfl,hfin2.out,hk5.out⟩
theorem BFinish_any {w:World}{B g t off:Nat}{cs:Array Value}{s:BB}{vb vs:Value}(h:BBAt w B g t off cs s vb vs)(hB:B≤w.heap.size)(hbl:s.b.length≤1099511627776)(hst:s.starts.length≤1099511627776)(hn:∀n∈s.starts,n<4294967296)(hc:s.count<4294967296) :
  Calls Tryz.prog 127 #[.pointer (some ⟨g,off,none⟩)] w fun e w'=>e=.returned (.string (bs s.out))∧BBAt w' B g t off (setBB cs off (.slice none 0 0) (.slice none 0 0) BB.new) BB.new (.slice none 0 0) (.slice none 0 0)∧KeptBut w w' (BS g vb vs):=by
 have:=BFinish_x h hB hbl hst (fun n hm=>by have:=hn n hm;omega) (by omega)
 rwa [BB.outX_eq hn hc] at this
def RdB (w:World)(v:Value)(l:L):Prop:=(v=.slice none 0 0∧l=[])∨∃b cap,v=.slice (some ⟨b,0,none⟩) l.length cap∧l.length≤cap∧b<w.heap.size∧∀j u,(l.map B8)[j]? = some u→w.cell? ⟨b,j,none⟩=some u
theorem RdB.below {w w':World}{v:Value}{l:L}(h:RdB w v l)(hb:Below w.heap.size w w'):RdB w' v l:=by
 rcases h with h | ⟨b,cap,e,h1,h2,h3⟩
 ·exact .inl h
 ·exact .inr ⟨b,cap,e,h1,Nat.lt_of_lt_of_le h2 hb.size,fun j u hu=>(hb.cell (p:=⟨b,j,none⟩) h2).trans (h3 j u hu)⟩
theorem RdB.kept {w w':World}{S:Nat→Prop}{v:Value}{l:L}(h:RdB w v l)(hk:KeptBut w w' S)(hs:∀k,v.ownBlock=some k→¬S k):RdB w' v l:=by
 rcases h with h | ⟨b,cap,rfl,h1,h2,h3⟩
 ·exact .inl h
 ·exact .inr ⟨b,cap,rfl,h1,Nat.lt_of_lt_of_le h2 hk.size,fun j u hu=>(hk.cell ⟨b,j,none⟩ h2 (hs b rfl)).trans (h3 j u hu)⟩
theorem RdB.own {w:World}{v:Value}{l:L}(h:RdB w v l):∀k,v.ownBlock=some k→k<w.heap.size:=by
 intro k hk;rcases h with⟨rfl,_⟩ | ⟨b,cap,rfl,h1,h2,h3⟩
 ·cases hk
 ·simp only[Value.ownBlock,Option.some.injEq] at hk;omega
theorem KeptBut.below_of {w0 w w':World}{S:Nat→Prop}(h:KeptBut w w' S)(hb:Below w0.heap.size w0 w)(hS:∀k,S k→w0.heap.size≤k):Below w0.heap.size w0 w' :=
 hb.trans (h.below hS hb.size)
theorem RdB.nil (w:World):RdB w (.slice none 0 0) []:=.inl ⟨rfl,rfl⟩
theorem RdB.form {w:World}{v:Value}{l:L}(h:RdB w v l):∃A cap,v=.slice A l.length cap∧l.length≤cap∧(A=none→cap=0):=by
 rcases h with⟨rfl,rfl⟩ | ⟨b,cap,e,h1,h2,h3⟩
 ·exact⟨none,0,rfl,Nat.le_refl _,fun _=>rfl⟩
 ·exact⟨_,cap,e,h1,fun e=>by cases e⟩
set_option maxRecDepth 100000 in
theorem RdB.text {w:World}{v:Value}{l:L}(h:RdB w v l):(convert 81 9 v).run Tryz.prog w=.ok (.string (bs l)) w:=by
 rcases h with⟨rfl,rfl⟩ | ⟨b,cap,rfl,h1,h2,h3⟩
 ·have h0:=run_convert_bytes_nil (P:=Tryz.prog) w 81 5 Tryz.underlying81 Tryz.underlying5 0 0 9 Tryz.underlying9;rw[h0,empty_bytes];rfl
 ·have:=run_convert_bytes_arg (P:=Tryz.prog) w 81 5 Tryz.underlying81 Tryz.underlying5 b 0 l.length cap (l.map fun c=>(c.toNat:Int)) (by simp) (fun i hi=>by
   have hi':i<l.length:=by simpa using hi
   have hc:=h3 i (B8 l[i]) (by rw[List.getElem?_map,List.getElem?_eq_getElem hi'];rfl);rw[Nat.zero_add,hc]
   simp[B8,List.getD,hi']) 9 Tryz.underlying9
  rw[this]
  congr 2
  unfold strOfNums bs
  congr 1
  simp[List.map_map,Function.comp_def]
theorem byteCells_B8 (s:ByteArray):byteCells s=s.data.toList.map B8:=rfl
set_option maxRecDepth 100000 in
theorem append_cut {w:World}{A:Option Addr}{l:L}(ty:TypeId)(h:RdB w (.slice A l.length l.length) l)(s:ByteArray)(hs:l.length+s.size≤70368744177664) :
  ∃v' w',(Builtin.append_ #[81,9] ty #[.slice A l.length l.length,.string s]).run Tryz.prog w=.ok v' w'∧RdB w' v' (l++s.data.toList)∧Below w.heap.size w w'∧Moved w (.slice A l.length l.length) v':=by
 obtain⟨i0,hi0,hz0,hz1,hz2⟩:=info_parts u8_info;have hsrc:=Src.ofString (P:=Tryz.prog) w (tx:=9) Tryz.underlying9 s;rcases Nat.eq_zero_or_pos s.size with h0 | h0
 ·have hd:s.data.toList=[]:=List.eq_nil_of_length_eq_zero (by rw[dlen];exact h0)
  have hbc:byteCells s=[]:=by rw[byteCells_B8,hd];rfl
  rw[h0,hbc] at hsrc;have hr:=run_append_nothing (P:=Tryz.prog) w 81 9 ty 5 i0 Tryz.underlying81 hi0 A l.length l.length (Nat.le_refl _) (.string s) (by rw[hz1];exact hsrc);exact⟨_,_,hr,by rw[hd,List.append_nil];exact h,Below.refl _ _,Moved.refl _ _⟩
 ·have hold:(Builtin.firstCells i0.size l.length (.slice A l.length l.length)).run Tryz.prog w.drew=.ok (l.map B8).toArray w.drew:=by
   rw[hz1];rcases h with⟨e,rfl⟩ | ⟨b,cap,e,h1,h2,h3⟩
   ·injection e with e _ _;subst e;exact run_firstCells_none w.drew 1 0 0 0
   ·injection e with e _ _;subst e
    exact run_firstCells_some w.drew 1 l.length ⟨b,0,none⟩ l.length l.length (l.map B8) (by simp) (fun j u hu=>by
     rw[add_off,Nat.zero_add]
     exact h3 j u hu)
  have hr:=run_append_grow_src (P:=Tryz.prog) w 81 9 ty 5 i0 (.int .u8 0) Tryz.underlying81 hi0 hz0 A l.length l.length (l.map B8) hold (.string s) s.size (byteCells s) (by rw[hz1];exact hsrc) (by omega) (by omega) (by rw[hz2];exact growslice_fits (by omega) (by omega));refine⟨_,_,hr,.inr ⟨w.heap.size,grownCap w (l.length+s.size) l.length 5,?_,?_,?_,fun j u hu=>?_⟩,((Below.refl _ _).drew).alloc (Nat.le_refl _) _,.inr ⟨_,rfl,Nat.le_refl _⟩⟩
  ·rw[List.length_append,dlen]
  ·rw[List.length_append,dlen];exact grownCap_ge w (l.length+s.size) l.length 5
  ·show w.heap.size<(w.drew.alloc _).heap.size;rw[World.size_alloc];exact Nat.lt_succ_self _
  ·have hcell:=(Blk.new w.drew 5 ((l.map B8++byteCells s).toArray++Builtin.zeroCells (Value.int .u8 0).cells (grownCap w (l.length+s.size) l.length 5-(l.length+s.size)))).cell j;refine hcell.trans ?_;rw[List.map_append,←byteCells_B8] at hu;have hj:j<(l.map B8++byteCells s).length:=(List.getElem?_eq_some_iff.1 hu).1;rw[Array.getElem?_append_left (by simpa using hj),List.getElem?_toArray];exact hu
theorem wpList_append_cut {w:World}{ops:Array Oper}{rest:List Oper}{o:Oper}{a:Act}{Q:Exit→Act→World→Prop}(hgd:o.guard=none)(sl x:Operand)
  (ho:o.op=.call { callee:=.builtin .append,args:=#[sl,x],argTypes:=#[81,9] })
  (A:Option Addr) (l:L) (n:Nat) (hs:a.eval sl=.slice A n n) (hn:l.length=n) (h:RdB w (.slice A n n) l) (s:ByteArray) (hx:a.eval x=.string s) (hbytes:l.length+s.size≤70368744177664)
  (hk:∀v' w',RdB w' v' (l++s.data.toList)→Below w.heap.size w w'→Moved w (.slice A n n) v'→wpList Tryz.prog ops Q rest (a.put o.dst v') w'):wpList Tryz.prog ops Q (o::rest) a w:=by
 subst hn;refine wpList_plain hgd fun K hK=>?_;obtain⟨v',w',hr,h2,h3,h4⟩:=append_cut o.type h s hbytes;unfold Oper.wp execOp;simp only[ho,resolve,invoke,builtin,Sem.run_bind,Sem.run_pure,Result.andThen_ok,List.map_toArray,List.map_cons,List.map_nil,hs,hx,hr];exact hK _ _ (hk v' w' h2 h3 h4)
theorem RdB.cut {w:World}{A:Option Addr}{n cap:Nat}{l:L}(h:RdB w (.slice A n cap) l)(k:Nat)(hk:k≤l.length):RdB w (.slice A (l.take k).length (l.take k).length) (l.take k):=by
 rcases h with⟨e,rfl⟩ | ⟨b,cap',e,h1,h2,h3⟩
 ·injection e with e _ _;subst e;simp;exact RdB.nil w
 ·injection e with e _ _;subst e;refine .inr ⟨b,_,rfl,Nat.le_refl _,h2,fun j u hu=>h3 j u ?_⟩;rw[List.map_take] at hu
  have hj:j<k:=by
   rcases Nat.lt_or_ge j k with h' | h'
   ·exact h'
   ·rw[List.getElem?_eq_none (by simp;omega)] at hu;cases hu
  rwa [List.getElem?_take_of_lt hj] at hu
theorem Moved.of_cut {w w3:World}{A:Option Addr}{a b c d:Nat}{v:Value}(h:Moved w3 (.slice A a b) v)(hz:w.heap.size≤w3.heap.size):Moved w (.slice A c d) v:=by
 rcases h with e | ⟨k,e,hk⟩
 ·exact .inl (e.trans (by cases A<;>rfl))
 ·exact .inr ⟨k,e,Nat.le_trans hz hk⟩
def NextIs (w:World)(va:Value)(o:Option (L × L × Nat))(e:Ending)(w':World):Prop:=match o with
 | none=>e=.returned (.tuple #[.slice none 0 0,.string ⟨#[]⟩,.int .i64 (-1)])
 | some (k,v,q)=>∃kv,e=.returned (.tuple #[kv,.string (bs v),.int .i64 (q:Nat)])∧RdB w' kv k∧Moved w va kv
theorem NextIs.none_ {w:World}{va:Value}{o:Option (L × L × Nat)}{w':World}(h:o=none):NextIs w va o (.returned (.tuple #[.slice none 0 0,.string ⟨#[]⟩,.int .i64 (-1)])) w':=by subst h;rfl
theorem NextIs.some_ {w:World}{va:Value}{o:Option (L × L × Nat)}{w':World}{k v:L}{q:Nat}{kv:Value}(h:o=some (k,v,q))(hk:RdB w' kv k)(hm:Moved w va kv):NextIs w va o (.returned (.tuple #[kv,.string (bs v),.int .i64 (q:Nat)])) w':=by subst h;exact⟨kv,rfl,hk,hm⟩
theorem ReadText_none (s:ByteArray)(most:Int)(w:World)(hs:s.size≤maxLen)(h0:-9223372036854775808≤most)(h1:most≤9223372036854775807)(h:readText s.data.toList most=none) :
  Calls Tryz.prog 165 #[.string s,.int .i64 most] w fun e w'=>e=.returned (.tuple #[.string ⟨#[]⟩,.int .i64 0,.bool false])∧Below w.heap.size w w':=by
 have:=ReadText_any s most w hs h0 h1;rw[h] at this;exact this
theorem ReadText_some (s:ByteArray)(most:Int)(t:List UInt8)(z:Nat)(w:World)(hs:s.size≤maxLen)(h0:-9223372036854775808≤most)(h1:most≤9223372036854775807)(h:readText s.data.toList most=some (t,z)) :
  Calls Tryz.prog 165 #[.string s,.int .i64 most] w fun e w'=>e=.returned (.tuple #[.string (bs t),.int .i64 z,.bool true])∧Below w.heap.size w w':=by
 have:=ReadText_any s most w hs h0 h1;rw[h] at this;exact this
theorem readText_le {l:L}{m:Int}{t:L}{z:Nat}(h:readText l m=some (t,z)):z≤l.length∧t.length≤l.length∧(t.length:Int)≤m:=by
 unfold readText at h
 split at h
 ·cases h
 ·rename_i n k hv
  obtain⟨a,b,c⟩:=readVar_le hv
  split at h
  ·cases h
  ·injection h with h;injection h with h1 h2;subst h1 h2;simp;omega
theorem drop_data (s:ByteArray)(p:Nat):(s.extract p s.size).data.toList=s.data.toList.drop p:=by rw[ext_bs,bs_data,List.take_of_length_le];simp[dlen]
set_option maxRecDepth 100000 in
set_option maxHeartbeats 4000000 in
theorem next_any (s:ByteArray)(p:Nat)(v:Value)(ahead:L)(w:World)(hv:RdB w v ahead)(hp:p≤s.size)(hs:s.size≤1099511627776)(ha:ahead.length≤1099511627776) :
  Calls Tryz.prog 123 #[.string s,.int .i64 p,v] w fun e w'=>NextIs w v (nextP s.data.toList p ahead) e w'∧Below w.heap.size w w':=by
 obtain⟨Aa,ca,rfl,hca,hna⟩:=hv.form
 have hsz:∀q,(s.extract q s.size).size≤maxLen:=fun q=>by unfold maxLen;simp;omega
 replace hsz:=Lib.hid hsz
 cases hr:readVar (s.data.toList.drop p) with
 | none =>
  have hR:nextP s.data.toList p ahead=none:=by unfold nextP;rw[hr]
  have hx:=Lib.hid (ReadVar_none (s.extract p s.size) w (hsz.out p) (by rw[drop_data];exact hr));replace hr:=Lib.hid hr;replace hR:=Lib.hid hR
  go_enter Tryz.func123,Tryz.ntmps123
  go_wp2_with fail
  refine hx.out.mono ?_;rintro e w1 ⟨rfl,hb1⟩;go_wp2_with fail
  go_ret3
  exact⟨NextIs.none_ hR.out,hb1⟩
 | some q =>
  obtain⟨n,z⟩:=q;have hx:=Lib.hid (ReadVar_some (s.extract p s.size) n z w (hsz.out p) (by rw[drop_data];exact hr));obtain⟨z1,z2,hn⟩:=readVar_le hr;rw[List.length_drop,dlen] at z2
  by_cases hal:ahead.length<n
  ·have hR:nextP s.data.toList p ahead=none:=by unfold nextP;rw[hr];simp only[];rw[if_pos hal]
   have hal':((ahead.length:Nat):Int)<(n:Int):=by omega
   have haw:IntKind.u64.wrap ((ahead.length:Nat):Int)=(ahead.length:Nat):=by rw[IntKind.wrap_u64];omega
   replace hr:=Lib.hid hr;replace hR:=Lib.hid hR
   go_enter Tryz.func123,Tryz.ntmps123
   go_wp2_with fail
   refine hx.out.mono ?_;rintro e w1 ⟨rfl,hb1⟩;go_wp2_with fail
   go_ret3
   exact⟨NextIs.none_ hR.out,hb1⟩
  ·have hal':¬((ahead.length:Nat):Int)<(n:Int):=by omega
   have haw:IntKind.u64.wrap ((ahead.length:Nat):Int)=(ahead.length:Nat):=by rw[IntKind.wrap_u64];omega
   have hpz:p+z≤s.size:=by omega
   have hpz':((p+z:Nat):Int)=(p:Int)+z:=by omega
   cases ht:readText (s.data.toList.drop (p+z)) 1024 with
   | none =>
    have hR:nextP s.data.toList p ahead=none:=by unfold nextP;rw[hr];simp only[];rw[if_neg hal,ht]
    have hy:=fun w=>Lib.hid (ReadText_none (s.extract (p+z) s.size) 1024 w (hsz.out _) (by omega) (by omega) (by rw[drop_data];exact ht));replace hr:=Lib.hid hr;replace hR:=Lib.hid hR;replace ht:=Lib.hid ht
    go_enter Tryz.func123,Tryz.ntmps123
    go_wp2_with fail
    refine hx.out.mono ?_;rintro e w1 ⟨rfl,hb1⟩;go_wp2_with fail
    refine (hy w1).out.mono ?_;rintro e w2 ⟨rfl,hb2⟩;go_wp2_with fail
    go_ret3
    exact⟨NextIs.none_ hR.out,hb1.trans (hb2.mono hb1.size)⟩
   | some q =>
    obtain⟨rest,z1⟩:=q;obtain⟨y1,y2,y3⟩:=readText_le ht;rw[List.length_drop,dlen] at y1 y2
    have hpz1:p+z+z1≤s.size:=by omega
    have hpz1':((p+z+z1:Nat):Int)=(p:Int)+z+z1:=by omega
    have hy:=fun w=>Lib.hid (ReadText_some (s.extract (p+z) s.size) 1024 rest z1 w (hsz.out _) (by omega) (by omega) (by rw[drop_data];exact ht))
    cases hu:readText (s.data.toList.drop (p+z+z1)) 1024 with
    | none =>
     have hR:nextP s.data.toList p ahead=none:=by unfold nextP;rw[hr];simp only[];rw[if_neg hal,ht];simp only[];rw[hu]
     have hq:=fun w=>Lib.hid (ReadText_none (s.extract (p+z+z1) s.size) 1024 w (hsz.out _) (by omega) (by omega) (by rw[drop_data];exact hu));replace hr:=Lib.hid hr;replace hR:=Lib.hid hR;replace ht:=Lib.hid ht;replace hu:=Lib.hid hu
     go_enter Tryz.func123,Tryz.ntmps123
     go_wp2_with fail
     refine hx.out.mono ?_;rintro e w1 ⟨rfl,hb1⟩;go_wp2_with fail
     refine (hy w1).out.mono ?_;rintro e w2 ⟨rfl,hb2⟩;go_wp2_with fail
     refine (hq w2).out.mono ?_;rintro e w3 ⟨rfl,hb3⟩;go_wp2_with fail
     go_ret3
     exact⟨NextIs.none_ hR.out,(hb1.trans (hb2.mono hb1.size)).trans (hb3.mono (Nat.le_trans hb1.size hb2.size))⟩
    | some q =>
     obtain⟨vv,z2⟩:=q
     have hR:nextP s.data.toList p ahead=some (ahead.take n++rest,vv,p+z+z1+z2):=by unfold nextP;rw[hr];simp only[];rw[if_neg hal,ht];simp only[];rw[hu]
     obtain⟨x1,x2,x3⟩:=readText_le hu;rw[List.length_drop,dlen] at x1 x2
     have hpz2':((p+z+z1+z2:Nat):Int)=(p:Int)+z+z1+z2:=by omega
     have hq:=fun w=>Lib.hid (ReadText_some (s.extract (p+z+z1) s.size) 1024 vv z2 w (hsz.out _) (by omega) (by omega) (by rw[drop_data];exact hu))
     have hnl:n≤ahead.length:=by omega
     have htl:(ahead.take n).length=n:=by rw[List.length_take];omega
     have hncap:(n:Int)≤ca:=by omega
     have hcut:=hv.cut n hnl;rw[htl] at hcut;have hrs:(bs rest).size=rest.length:=bs_size rest;replace hr:=Lib.hid hr;replace hR:=Lib.hid hR;replace ht:=Lib.hid ht;replace hu:=Lib.hid hu;replace hcut:=Lib.hid hcut;replace hv:=Lib.hid hv
     go_enter Tryz.func123,Tryz.ntmps123
     go_wp2_with fail
     refine hx.out.mono ?_;rintro e w1 ⟨rfl,hb1⟩;go_wp2_with fail
     refine (hy w1).out.mono ?_;rintro e w2 ⟨rfl,hb2⟩;go_wp2_with fail
     refine (hq w2).out.mono ?_;rintro e w3 ⟨rfl,hb3⟩;have hbb:=(hb1.trans (hb2.mono hb1.size)).trans (hb3.mono (Nat.le_trans hb1.size hb2.size));have hc3:=hcut.out.below hbb
     go_wp2_with (at_builtin;refine wpList_append_cut rfl (.tmp 59) (.tmp 60) rfl Aa (ahead.take n) n rfl htl hc3 (bs rest) rfl (by omega) ?_;intro v4 w4 ho4 hb4 hm4)
     rw[bs_data] at ho4
     go_ret3
     exact⟨NextIs.some_ hR.out ho4 (Moved.of_cut hm4 hbb.size),hbb.trans (hb4.mono hbb.size)⟩
theorem results_row_tmp {fn:Func}{p u:Tmp}{ty:TypeId}(h:fn.results=#[.cell p ty,.tmp u])(tmps:Array Value)(w:World)(g:Nat)(v x:Value)
  (hp:tmps.getD p undef=.pointer (some ⟨g,0,none⟩)) (hx:tmps.getD u undef=x) (hl:(loadVar ty ⟨g,0,none⟩).run Tryz.prog w=.ok v w) :
  (results fn tmps).run Tryz.prog w=.ok (.tuple #[v,x]) w:=by
 rw[results_cell_tmp h,hp,hx];simp[asAddr,hl]
theorem load_ent {w:World}{g:Nat}{cs:Array Value}(h:Blk w g 46 cs)(hs:cs.size=4):(loadVar 46 ⟨g,0,none⟩).run Tryz.prog w=.ok (.agg cs) w :=
 run_loadVar_row w g 46 46 cs (0,0) _ h Tryz.underlying46 rfl (by rw[hs];kernel_rfl)
def entC (e:Ent):Array Value:=#[.string (bs e.key),.string (bs e.value),.int .u64 (e.seq:Nat),.bool e.gone]
def ent0:Ent:=⟨[],[],0,false⟩
def entV (o:Option Ent):Value:=.tuple #[.agg (entC (o.getD ent0)),.bool o.isSome]
theorem ent_set {w:World}{g t:Nat}{cs:Array Value}(h:Blk w g t cs)(hs:cs.size=4)(e:Ent):Blk ((((w.setCell ⟨g,0,none⟩ (.string (bs e.key))).setCell ⟨g,1,none⟩ (.string (bs e.value))).setCell ⟨g,2,none⟩ (.int .u64 (e.seq:Nat))).setCell ⟨g,3,none⟩ (.bool e.gone)) g t (entC e):=by
 have:=(((h.set_ 0 (.string (bs e.key))).set_ 1 (.string (bs e.value))).set_ 2 (.int .u64 (e.seq:Nat))).set_ 3 (.bool e.gone);rcases cs with⟨_ | ⟨a,_ | ⟨b,_ | ⟨c,_ | ⟨d,_ | ⟨x,l⟩⟩⟩⟩⟩⟩
 all_goals first | exact this | (simp at hs;done) | (simp at hs;omega)
set_option maxRecDepth 100000 in
set_option maxHeartbeats 1000000 in
theorem entry_any (k v:ByteArray)(w:World)(hk:k.size≤1048576)(hv:v.size≤1048576) :
  Calls Tryz.prog 88 #[.string k,.string v] w fun e w'=>e=.returned (entV (entryP k.data.toList v.data.toList))∧Below w.heap.size w w':=by
 have hE:entryP k.data.toList v.data.toList=if k.size<8∨v.data.toList=[] then none else match partsP (k.data.toList.take (k.size-8)) with
  | some [p]=>some ⟨p.s,v.data.toList.drop 1,18446744073709551615-beV (k.data.toList.drop (k.size-8)),v.data.toList.take 1==[1]⟩
  | _=>none:=by
  unfold entryP;rw[dlen];rfl
 have hne:v.data.toList=[]↔v.size=0:=by
  constructor
  ·intro h;rw[←dlen,h];rfl
  ·intro h;exact List.eq_nil_of_length_eq_zero (by rw[dlen];exact h)
 by_cases h8:k.size<8
 ·have h8':((k.size:Nat):Int)-8<0:=by omega
  rw[if_pos (.inl h8)] at hE;replace hE:=Lib.hid hE;clear hne
  go_enter Tryz.func88,Tryz.ntmps88
  go_wp2_with fail
  exact bodyPost_ret (v:=entV none) (results_row_tmp rfl _ _ w.heap.size (.agg (entC ent0)) (.bool false) rfl rfl (load_ent (Blk.new w _ _) rfl)) rfl ⟨by rw[hE.out],(Below.refl _ _).alloc (Nat.le_refl _) _⟩
 ·have h8':¬((k.size:Nat):Int)-8<0:=by omega
  by_cases hv0:v.size=0
  ·rw[if_pos (.inr (hne.2 hv0))] at hE
   have hvl:v.toList=[]:=by rw[ByteArray.toList_eq];exact hne.2 hv0
   have hle:(v.toList==([]:L))=true:=by rw[hvl];rfl
   replace hE:=Lib.hid hE;clear hne
   go_enter Tryz.func88,Tryz.ntmps88
   go_wp2_with fail
   exact bodyPost_ret (v:=entV none) (results_row_tmp rfl _ _ w.heap.size (.agg (entC ent0)) (.bool false) rfl rfl (load_ent (Blk.new w _ _) rfl)) rfl ⟨by rw[hE.out],(Below.refl _ _).alloc (Nat.le_refl _) _⟩
  ·have hvn:v.data.toList≠[]:=fun e=>hv0 (hne.1 e);rw[if_neg (fun h=>h.elim h8 hvn)] at hE
   have hvl:v.toList≠[]:=by rw[ByteArray.toList_eq];exact hvn
   have hle:(v.toList==([]:L))=false:=by simpa using hvl
   obtain⟨m,hm⟩:∃m,k.size=m+8:=⟨k.size-8,by omega⟩
   have hm1:k.size-8=m:=by omega
   have hsm:((k.size:Nat):Int)-8=(m:Nat):=by omega
   have hml:((m:Nat):Int)≤k.size:=by omega
   rw[hm1] at hE;have hb0:Below w.heap.size w (w.alloc (.cells (entC ent0) 46)):=(Below.refl _ _).alloc (Nat.le_refl _) _;have hz0:=hb0.size
   have hl8:(k.data.toList.drop m).length=8:=by rw[List.length_drop,dlen];omega
   have hrb:readBig (k.data.toList.drop m) 8=some (beV (k.data.toList.drop m)):=by
    unfold readBig;rw[if_neg (by rw[hl8];omega),List.take_of_length_le (by rw[hl8];decide)]
   have hnl:beV (k.data.toList.drop m)<18446744073709551616:=readBig_lt hrb;have hrd:=ReadBig_some (k.extract m k.size) 8 (beV (k.data.toList.drop m)) (w.alloc (.cells (entC ent0) 46)) (by unfold maxLen;simp;omega) (by omega) (by omega) (by rw[drop_data];exact hrb)
   have hpx:(k.extract 0 m).data.toList=k.data.toList.take m:=by rw[ext_bs,bs_data];simp
   have hpa:=fun W=>Parts_any (k.extract 0 m) W (by simp;omega);rw[hpx] at hpa;have hnot:=not_u64 (beV (k.data.toList.drop m)) hnl
   generalize beV (k.data.toList.drop m)=n at *
   generalize 18446744073709551615-n=q at *
   generalize k.data.toList.take m=kp at *
   replace hm:=Lib.hid hm;replace hrd:=Lib.hid hrd;clear hne hm1 hrb hpx hl8 h8' hvn hb0;have hb0:Below w.heap.size w (w.alloc (.cells (entC ent0) 46)):=(Below.refl _ _).alloc (Nat.le_refl _) _;rcases hpp:partsP kp with _ | ps
   ·rw[hpp] at hpa hE;have hE2:entryP k.data.toList v.data.toList=none:=hE;replace hpa:=Lib.hid hpa;replace hE2:=Lib.hid hE2;clear hE
    go_enter Tryz.func88,Tryz.ntmps88
    go_wp2_with fail
    refine hrd.out.mono ?_;rintro e w1 ⟨rfl,hb1⟩;have hB1:=(Blk.new w 46 (entC ent0)).below hb1 (by rw[World.size_alloc];omega);go_wp2_with fail
    refine (hpa.out w1).mono ?_;rintro e w2 ⟨rfl,hb2⟩;have hB2:=hB1.below hb2 hB1.lt;have hb12:=hb1.trans (hb2.mono hb1.size);have hbw:=hb0.trans (hb12.mono hz0);have z0:=hB2.cell 0;have z1:=hB2.cell 1;have z2:=hB2.cell 2;have z3:=hB2.cell 3;have y0:=hB2.frozen 0;have y1:=hB2.frozen 1;have y2:=hB2.frozen 2;have y3:=hB2.frozen 3;have zl:=hB2.lt;have hfin:=ent_set hB2 rfl ent0;replace hfin:=Lib.hid hfin;simp only[entC,ent0] at z0 z1 z2 z3;go_wp2_with fail
    exact bodyPost_ret (v:=entV none) (results_row_tmp rfl _ _ w.heap.size (.agg (entC ent0)) (.bool false) rfl rfl (load_ent hfin.out rfl)) rfl ⟨by rw[hE2.out],(((hbw.setCell (Nat.le_refl _) _).setCell (Nat.le_refl _) _).setCell (Nat.le_refl _) _).setCell (Nat.le_refl _) _⟩
   ·rw[hpp] at hpa hE
    by_cases hp1:ps.length=1
    ·obtain⟨p,rfl⟩:∃p,ps=[p]:=by
      rcases ps with _ | ⟨p,_ | ⟨p',l⟩⟩
      ·cases hp1
      ·exact⟨p,rfl⟩
      ·simp at hp1
     have hE2:entryP k.data.toList v.data.toList=some ⟨p.s,v.data.toList.drop 1,q,v.data.toList.take 1==[1]⟩:=hE
     have hv1:v.extract 1 v.size=bs (v.data.toList.drop 1):=by rw[ext_bs,List.take_of_length_le (by simp[dlen])]
     have hv2:((v.extract 0 1).toList==[1])=(v.data.toList.take 1==[1]):=by rw[ByteArray.toList_eq,ext_bs,bs_data];simp
     generalize v.data.toList.drop 1=vt at *
     generalize (v.data.toList.take 1==[1])=vg at *
     replace hpa:=Lib.hid hpa;replace hE2:=Lib.hid hE2;clear hE
     go_enter Tryz.func88,Tryz.ntmps88
     go_wp2_with fail
     refine hrd.out.mono ?_;rintro e w1 ⟨rfl,hb1⟩;have hB1:=(Blk.new w 46 (entC ent0)).below hb1 (by rw[World.size_alloc];omega);go_wp2_with fail
     refine (hpa.out w1).mono ?_;rintro e w2 ⟨⟨pv,rfl,hpo⟩,hb2⟩
     obtain⟨gp,cp,rfl⟩:∃gp cp,pv=.slice (some ⟨gp,0,none⟩) 1 cp:=by
      rcases hpo.2 with⟨_,e⟩ | ⟨g,cap,cur,e,_⟩
      ·cases e
      ·exact⟨g,cap,e⟩
     have hpc:w2.cell? ⟨gp,1,none⟩=some (.string (bs p.s)):=by
      have:=hpo.cells (g:=gp) rfl 1 (.string (bs p.s)) rfl
      rwa [add_off] at this
     have hgl:=cell_lt hpc;have hB2:=hB1.below hb2 hB1.lt;have hb12:=hb1.trans (hb2.mono hb1.size);have hbw:=hb0.trans (hb12.mono hz0);go_wp2_with fail
     have hxc:=@Ext.cell;have hxf:=@Ext.frozen;refine wp_hide (fun Q0 hQ0=>?_);refine wp_region_line (fun w'=>∃x:Ext _,w'=x.w) [some false,some false,some false,some false,some false,some false,some false,some false,some false,some false,some false,some false,none,none] 0 (by kernel_rfl) (by kernel_rfl) ⟨⟨_,(Below.refl _ _).drew⟩,rfl⟩ ?_;simp only[earlyL,tailL]
     repeat (first | ((with_reducible refine wpMix_p ?_);go_big_quiet_step (fail);refine wpQuiet_nil ?_) | ((with_reducible refine wpMix_e ?_);go_big_quiet_step ((first | fail));refine wpQuiet_nil ?_))
     refine wpMix_nil ?_;clear hxc hxf;intro wx hwx;obtain⟨x,hx⟩:=hwx;have hb:=x.below;rw[←hx] at hb;clear hx x;have hBx:=hB2.below hb hB2.lt;have hbx:=hbw.trans (hb.mono hbw.size);have z0:=hBx.cell 0;have z1:=hBx.cell 1;have z2:=hBx.cell 2;have z3:=hBx.cell 3;have y0:=hBx.frozen 0;have y1:=hBx.frozen 1;have y2:=hBx.frozen 2;have y3:=hBx.frozen 3;have zl:=hBx.lt;have hfin:=ent_set hBx rfl ⟨p.s,vt,q,vg⟩;replace hfin:=Lib.hid hfin;simp only[entC,ent0] at z0 z1 z2 z3;clear hpc;refine wpTail_step ?_;intro Q1 hQ1
     go_wp2_with (fail)
     refine hQ1 _ _ rfl (fun h=>absurd h (by decide)) ?_;clear hQ1 Q1;refine wpTail_step ?_;intro Q1 hQ1
     go_wp2_with (fail)
     refine hQ1 _ _ rfl (fun h=>absurd h (by decide)) ?_;clear hQ1 Q1;refine wpTail_nil ?_;refine hQ0 _ _ ?_;clear hQ0 Q0;go_wp2_with fail
     exact bodyPost_ret (v:=entV (some ⟨p.s,vt,q,vg⟩)) (results_row_tmp rfl _ _ w.heap.size (.agg (entC ⟨p.s,vt,q,vg⟩)) (.bool true) rfl rfl (load_ent hfin.out rfl)) rfl ⟨by rw[hE2.out],(((hbx.setCell (Nat.le_refl _) _).setCell (Nat.le_refl _) _).setCell (Nat.le_refl _) _).setCell (Nat.le_refl _) _⟩
    ·have hE2:entryP k.data.toList v.data.toList=none:=by
      rw[hE];rcases ps with _ | ⟨p,_ | ⟨p',l⟩⟩
      ·rfl
      ·exact absurd rfl hp1
      ·rfl
     have hp1':¬((ps.length:Nat):Int)=1:=by omega
     have hp1b:(((ps.length:Nat):Int) != 1)=true:=by simpa using hp1'
     replace hpa:=Lib.hid hpa;replace hE2:=Lib.hid hE2;clear hE
     go_enter Tryz.func88,Tryz.ntmps88
     go_wp2_with fail
     refine hrd.out.mono ?_;rintro e w1 ⟨rfl,hb1⟩;have hB1:=(Blk.new w 46 (entC ent0)).below hb1 (by rw[World.size_alloc];omega);go_wp2_with fail
     refine (hpa.out w1).mono ?_;rintro e w2 ⟨⟨pv,rfl,hpo⟩,hb2⟩;obtain⟨gp,cp,rfl⟩:=hpo.form;have hB2:=hB1.below hb2 hB1.lt;have hb12:=hb1.trans (hb2.mono hb1.size);have hbw:=hb0.trans (hb12.mono hz0);have z0:=hB2.cell 0;have z1:=hB2.cell 1;have z2:=hB2.cell 2;have z3:=hB2.cell 3;have y0:=hB2.frozen 0;have y1:=hB2.frozen 1;have y2:=hB2.frozen 2;have y3:=hB2.frozen 3;have zl:=hB2.lt;have hfin:=ent_set hB2 rfl ent0;replace hfin:=Lib.hid hfin;simp only[entC,ent0] at z0 z1 z2 z3;go_wp2_with fail
     exact bodyPost_ret (v:=entV none) (results_row_tmp rfl _ _ w.heap.size (.agg (entC ent0)) (.bool false) rfl rfl (load_ent hfin.out rfl)) rfl ⟨by rw[hE2.out],(((hbw.setCell (Nat.le_refl _) _).setCell (Nat.le_refl _) _).setCell (Nat.le_refl _) _).setCell (Nat.le_refl _) _⟩
structure TI where
 n:Nat
 level:Int
 count:Nat
 size:Nat
 first:L
 last:L
 least:Nat
 most:Nat
structure TB where
 t:TI
 data:BB
 index:BB
 last:L
 keys:List L
 parts:List L
 at_:Nat
 done:Bool
def TB.new (n:Nat)(level:Int):TB:=⟨⟨n,level,0,0,[],[],0,0⟩,BB.new,BB.new,[],[],[],0,false⟩
def TB.bad (s:TB)(e:Ent):Bool:=decide (e.key=[])||(e.gone&&!decide (e.value=[]))||decide (e.seq<1)||decide (9223372036854775808<e.seq)||(decide (0<s.t.count)&&!lessL s.last (rowK e))
def TB.ends (s:TB):TB:={ s with data:=BB.new,index:=s.index.add s.last (varL [s.at_,s.data.out.length]),parts:=s.parts++[s.data.out],at_:=s.at_+s.data.out.length }
def TB.put (s:TB)(e:Ent):TB :=
 { s with last:=rowK e,data:=s.data.add (rowK e) (rowV e),keys:=if s.t.last=e.key then s.keys else s.keys++[e.key], t:={ s.t with first:=if s.t.count=0 then e.key else s.t.first,count:=s.t.count+1,last:=e.key,least:=min (if s.t.count=0 then e.seq else s.t.least) e.seq,most:=max (if s.t.count=0 then e.seq else s.t.most) e.seq } }
def TB.err (s:TB)(e:Ent):Nat:=if s.done then 9 else if 64<e.key.length∨512<e.value.length then 3 else if s.bad e then 1 else 0
def TB.add (s:TB)(e:Ent):TB × L:=if s.err e=0 then (if 256≤(s.put e).data.size then ((s.put e).ends,(s.put e).data.out) else (s.put e,[])) else (s,[])
def strV (l:L):Value:=.string (bs l)
def OwnS (w:World)(B:Nat)(v:Value)(l:List L):Prop:=w.ownsRow B 9 1 v l.length (l.map strV)
def tbC (s:TB)(vb1 vs1 vb2 vs2 vk vp:Value):Array Value :=
 #[.int .u64 (s.t.n:Nat),.int .i64 s.t.level,.int .i64 (s.t.count:Nat),.int .i64 (s.t.size:Nat),strV s.t.first,strV s.t.last,.int .u64 (s.t.least:Nat),.int .u64 (s.t.most:Nat),
  vb1,vs1,.int .i64 (s.data.count:Nat),strV s.data.last,vb2,vs2,.int .i64 (s.index.count:Nat),strV s.index.last,strV s.last,vk,vp,.int .i64 (s.at_:Nat),.bool s.done]
structure TBAt (w:World)(B g:Nat)(s:TB)(vb1 vs1 vb2 vs2 vk vp:Value):Prop where
 hB:B≤g
 blk:Blk w g 159 (tbC s vb1 vs1 vb2 vs2 vk vp)
 o1:OwnB w B vb1 s.data.b
 p1:OwnW w B vs1 s.data.starts
 o2:OwnB w B vb2 s.index.b
 p2:OwnW w B vs2 s.index.starts
 ok:OwnS w B vk s.keys
 op:OwnS w B vp s.parts
 nb:∀k,vb1.ownBlock=some k→vb2.ownBlock≠some k
 ns:∀k,vs1.ownBlock=some k→vs2.ownBlock≠some k
 np:∀k,vk.ownBlock=some k→vp.ownBlock≠some k
theorem Moved.mv {w:World}{v v':Value}(h:Moved w v v'):Mv w v v':=by
 intro k hk;rcases h with e | ⟨x,e,hx⟩
 ·exact .inl (by rw[←e];exact hk)
 ·rw[hk] at e;injection e with e;exact .inr (by omega)
def TS (g:Nat)(vb1 vs1 vb2 vs2 vk vp:Value):Nat→Prop:=fun k=>k=g∨vb1.ownBlock=some k∨vs1.ownBlock=some k∨vb2.ownBlock=some k∨vs2.ownBlock=some k∨vk.ownBlock=some k∨vp.ownBlock=some k
theorem OwnS.form {w:World}{B:Nat}{v:Value}{l:List L}(h:OwnS w B v l):∃A cap,v=.slice A l.length cap:=by
 rcases h.2 with⟨rfl,e⟩ | ⟨g,cap,cur,rfl,_⟩
 ·exact⟨none,0,by rw[e]⟩
 ·exact⟨_,cap,rfl⟩
theorem OwnS.of_law {w:World}{B n:Nat}{v:Value}{l:List L}{m:L}(h:w.ownsRow B 9 1 v n (l.map strV++[strV m])):OwnS w B v (l++[m]):=by
 have hl:n=(l++[m]).length:=by have:=h.1;simp at this;simp;omega
 subst hl;unfold OwnS;rw[List.map_append];exact h
section
variable {w w':World}{B g:Nat}{s:TB}{vb1 vs1 vb2 vs2 vk vp:Value}
theorem TBAt.data (h:TBAt w B g s vb1 vs1 vb2 vs2 vk vp):BBAt w B g 159 8 (tbC s vb1 vs1 vb2 vs2 vk vp) s.data vb1 vs1 :=
 ⟨h.hB,h.blk,rfl,rfl,rfl,rfl,h.o1,h.p1,by decide,by decide⟩
theorem TBAt.index (h:TBAt w B g s vb1 vs1 vb2 vs2 vk vp):BBAt w B g 159 12 (tbC s vb1 vs1 vb2 vs2 vk vp) s.index vb2 vs2 :=
 ⟨h.hB,h.blk,rfl,rfl,rfl,rfl,h.o2,h.p2,by decide,by decide⟩
theorem TBAt.below (h:TBAt w B g s vb1 vs1 vb2 vs2 vk vp)(hb:Below w.heap.size w w'):TBAt w' B g s vb1 vs1 vb2 vs2 vk vp:=by
 have k:∀ {e m n v xs},w.ownsRow B e m v n xs→w'.ownsRow B e m v n xs:=fun h=>own_block h (fun k hk=>hb.block k (own_lt h k hk).2);exact⟨h.hB,h.blk.below hb h.blk.lt,k h.o1,k h.p1,k h.o2,k h.p2,k h.ok,k h.op,h.nb,h.ns,h.np⟩
theorem TBAt.kept {S:Nat→Prop}(h:TBAt w B g s vb1 vs1 vb2 vs2 vk vp)(hk:KeptBut w w' S)(hs:∀k,TS g vb1 vs1 vb2 vs2 vk vp k→¬S k):TBAt w' B g s vb1 vs1 vb2 vs2 vk vp :=
 ⟨h.hB,h.blk.keptB hk (hs g (.inl rfl)),own_kept h.o1 hk (fun k e=>hs k (.inr (.inl e))),own_kept h.p1 hk (fun k e=>hs k (.inr (.inr (.inl e)))),own_kept h.o2 hk (fun k e=>hs k (.inr (.inr (.inr (.inl e))))),
  own_kept h.p2 hk (fun k e=>hs k (.inr (.inr (.inr (.inr (.inl e)))))),own_kept h.ok hk (fun k e=>hs k (.inr (.inr (.inr (.inr (.inr (.inl e))))))),own_kept h.op hk (fun k e=>hs k (.inr (.inr (.inr (.inr (.inr (.inr e)))))) ),h.nb,h.ns,h.np⟩
theorem setBB8 (d:BB)(x y:Value):setBB (tbC s vb1 vs1 vb2 vs2 vk vp) 8 x y d=tbC { s with data:=d } x y vb2 vs2 vk vp:=rfl
theorem setBB12 (d:BB)(x y:Value):setBB (tbC s vb1 vs1 vb2 vs2 vk vp) 12 x y d=tbC { s with index:=d } vb1 vs1 x y vk vp:=rfl
theorem TBAt.of_data {d:BB}{x y:Value}(h:TBAt w B g s vb1 vs1 vb2 vs2 vk vp)(hd:BBAt w' B g 159 8 (setBB (tbC s vb1 vs1 vb2 vs2 vk vp) 8 x y d) d x y)(hk:KeptBut w w' (BS g vb1 vs1))(hx:Mv w vb1 x)(hy:Mv w vs1 y) :
  TBAt w' B g { s with data:=d } x y vb2 vs2 vk vp:=by
 have k:∀ {e v n xs},w.ownsRow B e 1 v n xs→(∀k,v.ownBlock=some k→¬BS g vb1 vs1 k)→w'.ownsRow B e 1 v n xs:=fun h hs=>own_kept h hk hs
 have mv:∀ {v v' u:Value},Mv w v v'→(∀k,u.ownBlock=some k→k<w.heap.size)→(∀k,v.ownBlock=some k→u.ownBlock≠some k)→∀k,v'.ownBlock=some k→u.ownBlock≠some k:=by
  intro v v' u hm hu hv k hk e;rcases hm k hk with e1 | hz
  ·exact hv k e1 e
  ·have:=hu k e;omega
 refine⟨h.hB,by have:=hd.blk;rwa [setBB8] at this,hd.ob,hd.os,k h.o2 ?_,k h.p2 ?_,k h.ok ?_,k h.op ?_,mv hx (fun k e=>(own_lt h.o2 k e).2) h.nb,mv hy (fun k e=>(own_lt h.p2 k e).2) h.ns,h.np⟩
 ·intro k hk e;rcases e with e | e | e
  ·exact own_blk_ne h.o2 h.blk (by decide) (by rw[hk,e])
  ·exact h.nb k e hk
  ·exact own_types h.o2 h.p1 (by decide) k hk e
 ·intro k hk e;rcases e with e | e | e
  ·exact own_blk_ne h.p2 h.blk (by decide) (by rw[hk,e])
  ·exact own_types h.p2 h.o1 (by decide) k hk e
  ·exact h.ns k e hk
 ·intro k hk e;rcases e with e | e | e
  ·exact own_blk_ne h.ok h.blk (by decide) (by rw[hk,e])
  ·exact own_types h.ok h.o1 (by decide) k hk e
  ·exact own_types h.ok h.p1 (by decide) k hk e
 ·intro k hk e;rcases e with e | e | e
  ·exact own_blk_ne h.op h.blk (by decide) (by rw[hk,e])
  ·exact own_types h.op h.o1 (by decide) k hk e
  ·exact own_types h.op h.p1 (by decide) k hk e
theorem TBAt.of_index {d:BB}{x y:Value}(h:TBAt w B g s vb1 vs1 vb2 vs2 vk vp)(hd:BBAt w' B g 159 12 (setBB (tbC s vb1 vs1 vb2 vs2 vk vp) 12 x y d) d x y)(hk:KeptBut w w' (BS g vb2 vs2))(hx:Mv w vb2 x)(hy:Mv w vs2 y) :
  TBAt w' B g { s with index:=d } vb1 vs1 x y vk vp:=by
 have k:∀ {e v n xs},w.ownsRow B e 1 v n xs→(∀k,v.ownBlock=some k→¬BS g vb2 vs2 k)→w'.ownsRow B e 1 v n xs:=fun h hs=>own_kept h hk hs
 have mv:∀ {v v' u:Value},Mv w v v'→(∀k,u.ownBlock=some k→k<w.heap.size)→(∀k,u.ownBlock=some k→v.ownBlock≠some k)→∀k,u.ownBlock=some k→v'.ownBlock≠some k:=by
  intro v v' u hm hu hv k hk e;rcases hm k e with e1 | hz
  ·exact hv k hk e1
  ·have:=hu k hk;omega
 refine⟨h.hB,by have:=hd.blk;rwa [setBB12] at this,k h.o1 ?_,k h.p1 ?_,hd.ob,hd.os,k h.ok ?_,k h.op ?_,mv hx (fun k e=>(own_lt h.o1 k e).2) h.nb,mv hy (fun k e=>(own_lt h.p1 k e).2) h.ns,h.np⟩
 ·intro k hk e;rcases e with e | e | e
  ·exact own_blk_ne h.o1 h.blk (by decide) (by rw[hk,e])
  ·exact h.nb k hk e
  ·exact own_types h.o1 h.p2 (by decide) k hk e
 ·intro k hk e;rcases e with e | e | e
  ·exact own_blk_ne h.p1 h.blk (by decide) (by rw[hk,e])
  ·exact own_types h.p1 h.o2 (by decide) k hk e
  ·exact h.ns k hk e
 ·intro k hk e;rcases e with e | e | e
  ·exact own_blk_ne h.ok h.blk (by decide) (by rw[hk,e])
  ·exact own_types h.ok h.o2 (by decide) k hk e
  ·exact own_types h.ok h.p2 (by decide) k hk e
 ·intro k hk e;rcases e with e | e | e
  ·exact own_blk_ne h.op h.blk (by decide) (by rw[hk,e])
  ·exact own_types h.op h.o2 (by decide) k hk e
  ·exact own_types h.op h.p2 (by decide) k hk e
end
end Go.Proofs.YtlpojfgeocpkeaaGreatDoor
