/- block.Builder: Add, the walk. -/
import Derived.Test.YtlpojfgeocpkeaaGreatDoorTBAJ
namespace Go.Proofs.YtlpojfgeocpkeaaGreatDoor
open Go.RowKit
set_option linter.unusedVariables false
set_option linter.unusedSimpArgs false
set_option maxRecDepth 100000 in
set_option maxHeartbeats 4000000 in
theorem BAdd_ok {w:World}{B g t off:Nat}{cs:Array Value}{s:BB}{vb vs:Value}(h:BBAt w B g t off cs s vb vs)(k v:ByteArray)(he:s.err k.data.toList v.data.toList=0)(hB:B≤w.heap.size)(hbl:s.b.length≤1099511627776)(hst:s.starts.length≤1099511627776)(hcnt:s.count≤1099511627776)(hla:s.last.length≤1099511627776) :
  Calls Tryz.prog 105 #[.pointer (some ⟨g,off,none⟩),.string k,.string v] w fun e w'=>e=.returned (.int .i64 0)∧∃vb' vs',BBAt w' B g t off (setBB cs off vb' vs' (s.put k.data.toList v.data.toList)) (s.put k.data.toList v.data.toList) vb' vs'∧KeptBut w w' (BS g vb vs)∧Moved w vb vb'∧Moved w vs vs':=by
 obtain⟨i0,hi0,hz0,hz1,hz2⟩:=info_parts u64_info;obtain⟨Ab,cb,rfl⟩:=h.ob.form;obtain⟨As,cas,rfl⟩:=h.os.form;have c0:=(h.blk.cell off).trans h.e0;have c1:=(h.blk.cell (off+1)).trans h.e1;have c2:=(h.blk.cell (off+2)).trans h.e2;have c3:=(h.blk.cell (off+3)).trans h.e3;have f0:=h.blk.frozen off;have f1:=h.blk.frozen (off+1);have f2:=h.blk.frozen (off+2);have f3:=h.blk.frozen (off+3);have hlt:=h.blk.lt;have htb:=h.tb;have hlk:k.data.toList.length=k.size:=(Lib.size_eq k).symm;have hlv:v.data.toList.length=v.size:=(Lib.size_eq v).symm
 have hle:(Op.bytesLess k.toList (bs s.last).toList||k.toList==(bs s.last).toList)=!(lessL s.last k.data.toList):=by
  rw[bs_toList,ByteArray.toList_eq];exact less_tri _ _
 have hE:=he;unfold BB.err at hE;rw[hlk,hlv] at hE
 have hlong:¬(1024<k.size∨1024<v.size):=by
  intro hh;rw[if_pos hh] at hE;cases hE
 rw[if_neg hlong] at hE
 have h1':¬(1024:Int)<k.size:=by omega
 have h2':¬(1024:Int)<v.size:=by omega
 have hor:¬(0<s.count∧lessL s.last k.data.toList=false):=by
  intro hh;rw[if_pos hh] at hE;cases hE
 clear hE;replace hlk:=Lib.hid hlk;replace hlv:=Lib.hid hlv
 by_cases hm:s.count % 4=0
 ·have hm':(s.count:Int) % 4=0:=by omega
  by_cases h0:0<s.count
  ·have h0':(0:Int)<s.count:=by omega
   have hl:lessL s.last k.data.toList=true:=by
    rcases hq:lessL s.last k.data.toList with _ | _
    ·exact absurd ⟨h0,hq⟩ hor
    ·rfl
   rw[hl] at hle;clear hl hor
   go_enter Tryz.func105,Tryz.ntmps105
   go_wp2_with fail
   have hxc:=@Ext.cell;have hxf:=@Ext.frozen;refine wp_hide (fun Q0 hQ0=>?_);refine wp_region_line (fun w'=>∃x:Ext _,w'=x.w) [some true,some false,some false,some false,some false,some false,some false,some false,some false,some false,some false,none,none,none,none,none] 1 (by kernel_rfl) (by kernel_rfl) ⟨⟨_,(Below.refl _ _).drew⟩,rfl⟩ ?_;simp only[earlyL,tailL]
   repeat (first | ((with_reducible refine wpMix_p ?_);go_big_quiet_step (fail);refine wpQuiet_nil ?_) | ((with_reducible refine wpMix_e ?_);go_big_quiet_step ((first | fail));refine wpQuiet_nil ?_))
   refine wpMix_nil ?_;clear hxc hxf;intro wx hwx;obtain⟨x,hx⟩:=hwx;have hb:=x.below;rw[←hx] at hb;clear hx x;have hbs:=hb.size;have hown:=own_block h.os (fun k hk=>hb.block k (own_lt h.os k hk).2);have hownx:=World.ownsRow.alloc hown (.cells #[.int .u64 (s.b.length:Nat)] 34);have hrd:=new_u64 wx (s.b.length:Nat) 34
   have hone:∀u∈[Value.int .u64 (s.b.length:Nat)],u.oneCell'=true:=by
    intro u hu;simp at hu;subst hu;rfl
   have hBx:B≤(wx.alloc (.cells #[.int .u64 (s.b.length:Nat)] 34)).heap.size:=by rw[World.size_alloc];omega
   replace hone:=Lib.hid hone;clear hown;refine wpTail_step ?_;intro Q1 hQ1;go_wp2_with fail
   refine hQ1 _ _ rfl (fun _=>⟨⟨_,hb.alloc hbs _⟩,rfl⟩) ?_;clear hQ1 Q1;refine wpTail_step ?_;intro Q1 hQ1
   go_wp2_with (at_builtin;refine wpList_append_any _ rfl (.tmp 44) (.tmp 51) 155 rfl B 34 i0 (.int .u64 0) 1 8 Tryz.underlying155 hi0 hz0 hz1 hz2 rfl (by omega) (.slice As s.starts.length cas) s.starts.length (s.starts.map fun n=>Value.int .u64 (n:Nat)) rfl hownx (wx.heap.size+1) (some ⟨wx.heap.size,0,none⟩) 1 1 [.int .u64 (s.b.length:Nat)] rfl hrd hone.out (by unfold maxLen;omega) (by omega) hBx ?_;intro v2 w2 hown2 hgr2 hat2)
   refine hQ1 _ _ rfl (fun h=>absurd h (by decide)) ?_;clear hQ1 Q1;have ho2:=OwnW.of_law hown2;obtain⟨A2,c2',e2⟩:=ho2.form;rw[List.length_append,List.length_singleton] at e2;subst e2
   have hk2:KeptBut w w2 (fun k=>(Value.slice As s.starts.length cas).ownBlock=some k):=(KeptBut.of_below (hb.alloc hbs _)).then_grown hgr2 (fun k e=>e)
   have hm2:Moved w (.slice As s.starts.length cas) (.slice A2 (s.starts.length+1) c2'):=by
    rcases hat2 with e | e
    ·exact .inl e
    ·exact .inr ⟨_,e,by rw[World.size_alloc];omega⟩
   have hB2:Blk w2 g t cs:=h.blk.keptB hk2 h.gs;have hO2:OwnB w2 B (.slice Ab s.b.length cb) s.b:=own_kept h.ob hk2 h.nbs;have y1:=hB2.frozen (off+1);have y2:=(hB2.cell (off+1)).trans h.e1;replace hk2:=Lib.hid hk2;replace hm2:=Lib.hid hm2;replace hB2:=Lib.hid hB2;replace hO2:=Lib.hid hO2;replace ho2:=Lib.hid ho2;clear hown2 hgr2 hat2 hownx hrd hone;refine wpTail_step ?_;intro Q1 hQ1
   go_wp2_with (fail)
   refine hQ1 _ _ rfl (fun h=>absurd h (by decide)) ?_;clear hQ1 Q1;refine wpTail_step ?_;intro Q1 hQ1
   go_wp2_with (fail)
   refine hQ1 _ _ rfl (fun h=>absurd h (by decide)) ?_;clear hQ1 Q1;refine wpTail_step ?_;intro Q1 hQ1
   go_wp2_with (fail)
   refine hQ1 _ _ rfl (fun h=>absurd h (by decide)) ?_;clear hQ1 Q1;refine wpTail_nil ?_;refine hQ0 _ _ ?_;clear hQ0 Q0;go_wp2_with fail
   have hL:s.lead k.data.toList=0:=by unfold BB.lead;rw[if_pos hm]
   obtain⟨n,hn⟩:∃n:Nat,n=0:=⟨0,rfl⟩;rw (occs:=.pos [2]) [show (Value.int .i64 0)=Value.int .i64 ((n:Nat):Int) from by rw[hn];rfl]
   have hnk:n≤k.size:=by omega
   have hL':=Lib.hid (show s.lead k.data.toList=n from by rw[hL,hn]);obtain⟨cs1,hcs1⟩:∃c,c=cs.setIfInBounds (off+1) (.slice A2 (s.starts.length+1) c2'):=⟨_,rfl⟩;have hBt:=hB2.out.set_ (off+1) (.slice A2 (s.starts.length+1) c2');rw[←hcs1] at hBt;have hOt:=Lib.hid (own_set hO2.out hB2.out h.tb (o:=off+1) (u:=.slice A2 (s.starts.length+1) c2'));have hWt:=Lib.hid (own_set ho2.out hB2.out h.tw (o:=off+1) (u:=.slice A2 (s.starts.length+1) c2'))
   have hKt:=Lib.hid ((hk2.out.mono (S':=BS g (.slice Ab s.b.length cb) (.slice As s.starts.length cas)) (fun k _ e=>.inr (.inr e))).then_set (b:=g) (o:=off+1) (v:=.slice A2 (s.starts.length+1) c2') (.inl rfl))
   generalize w2.setCell ⟨g,off+1,none⟩ (.slice A2 (s.starts.length+1) c2')=W1 at *
   have q0:cs1[off]? = some (.slice Ab s.b.length cb):=by rw[hcs1,Array.getElem?_setIfInBounds_ne (by omega)];exact h.e0
   have q2:cs1[off+2]? = some (.int .i64 s.count):=by rw[hcs1,Array.getElem?_setIfInBounds_ne (by omega)];exact h.e2
   have q3:cs1[off+3]? = some (.string (bs s.last)):=by rw[hcs1,Array.getElem?_setIfInBounds_ne (by omega)];exact h.e3
   have hen:Hid ((bs (varL1 n)++bs (textL [k.data.toList.drop n,v.data.toList])).data.toList=s.enc k.data.toList v.data.toList):=by
    unfold BB.enc;rw[hL'.out,bs_append,bs_data];exact rfl
   have hdr:Hid ((k.extract n k.size).data.toList=k.data.toList.drop n):=by
    have:(k.extract n k.size).data.toList=k.data.toList.drop n:=by rw[ext_bs,bs_data,List.take_of_length_le];simp[dlen]
    exact this
   have hgb:=Lib.hid h.gb
   have hz11:(k.extract n k.size).size≤1099511627776:=by simp;omega
   have hzv:v.size≤1099511627776:=by omega
   have hBW:B≤W1.heap.size:=by have:=hBt.lt;have:=h.hB;omega
   have hep:Hid (0<(s.enc k.data.toList v.data.toList).length):=s.enc_pos _ _
   have hzz:s.b.length+(bs (varL1 n)++bs (textL [k.data.toList.drop n,v.data.toList])).size≤70368744177664:=by
    have h3:=s.enc_len k.data.toList v.data.toList;rw[←hen.out,dlen,dlen,dlen] at h3;omega
   replace hn:=Lib.hid hn;replace hL:=Lib.hid hL
   have hcat:Hid (¬9223372036854775807<(bs (varL1 n)).size+(bs (textL [k.data.toList.drop n,v.data.toList])).size):=by
    have:¬9223372036854775807<(bs (varL1 n)).size+(bs (textL [k.data.toList.drop n,v.data.toList])).size:=by rw[ByteArray.size_append] at hzz;omega
    exact this
   have hnw:Hid (IntKind.u64.wrap ((n:Nat):Int)=((n:Nat):Int)):=by
    have:IntKind.u64.wrap ((n:Nat):Int)=((n:Nat):Int):=by rw[IntKind.wrap_u64];omega
    exact this
   refine wp_region_task (fun d w'=>JA W1 B g t off cs1 (.slice Ab s.b.length cb) (s.b++s.enc k.data.toList v.data.toList) (d 16) (d 19) w') (tauL [some (.pointer (some ⟨g,off,none⟩)),some (.pointer (some ⟨g,off,none⟩)),some (.pointer (some ⟨g,off,none⟩)),some (.pointer (some ⟨g,off,none⟩)),some (.slice Ab s.b.length cb),some (.int .i64 (n:Nat)),some (.int .u64 (n:Nat)),none,some (.string (bs (varL1 n))),some (.string k),some (.int .i64 (n:Nat)),some (.string (k.extract n k.size)),some (.string v),none,some (.string (bs (textL [k.data.toList.drop n,v.data.toList]))),some (.string (bs (varL1 n)++bs (textL [k.data.toList.drop n,v.data.toList]))),none,some (.pointer (some ⟨g,off,none⟩)),some (.pointer (some ⟨g,off,none⟩)),none] (SA W1 B n (k.extract n k.size) v (.slice Ab s.b.length cb) (s.b++s.enc k.data.toList v.data.toList))) (usL (List.replicate 19 undef)) ?m1a ?m2a ?m3a ?m4a (Below.refl _ _).drew ?m5a ?m6a
   case m1a=>kernel_rfl
   case m2a=>kernel_rfl
   case m3a=>kernel_rfl
   case m4a=>kernel_rfl
   case m5a =>
    refine⟨?o0a,?o1a,?o2a,?o3a,?o4a,?o5a,?o6a,?o7a,?o8a,?o9a,?o10a,?o11a,?o12a,?o13a,?o14a,?o15a,?o16a,?o17a,?o18a,?o19a,trivial⟩
    case o0a =>
     intro d us wx hd hJ hp hu hi;refine .inl ⟨by kernel_rfl,fun K Q hK=>?_⟩;simp only[putAll,Act.put,Nat.reduceAdd] at hK ⊢;go_simp;refine Eq.mp ?_ (hK (.pointer (some ⟨g,off,none⟩)) _ hJ rfl (fun _ _ _ h=>h))
     kernel_rfl
    case o1a =>
     intro d us wx hd hJ hp hu hi;refine .inl ⟨by kernel_rfl,fun K Q hK=>?_⟩;simp only[putAll,Act.put,Nat.reduceAdd] at hK ⊢;go_simp;refine Eq.mp ?_ (hK (.pointer (some ⟨g,off,none⟩)) _ hJ rfl (fun _ _ _ h=>h))
     kernel_rfl
    case o2a =>
     intro d us wx hd hJ hp hu hi;have h1:us 1=_:=(hp 1 (by simp[Region.binds])).2;refine .inl ⟨by kernel_rfl,fun K Q hK=>?_⟩;simp only[putAll,Act.put,Nat.reduceAdd,h1] at hK ⊢;go_simp;refine Eq.mp ?_ (hK (.pointer (some ⟨g,off,none⟩)) _ hJ rfl (fun _ _ _ h=>h))
     kernel_rfl
    case o3a =>
     intro d us wx hd hJ hp hu hi;have h2:us 2=_:=(hp 2 (by simp[Region.binds])).2;refine .inl ⟨by kernel_rfl,fun K Q hK=>?_⟩;simp only[putAll,Act.put,Nat.reduceAdd,h2] at hK ⊢;go_simp;refine Eq.mp ?_ (hK (.pointer (some ⟨g,off,none⟩)) _ hJ rfl (fun _ _ _ h=>h))
     kernel_rfl
    case o4a =>
     intro d us wx hd hJ hp hu hi;have h3:us 3=_:=(hp 3 (by simp[Region.binds])).2;have h16:=(hu 16 (by kernel_rfl)).1;have h19:=(hu 19 (by kernel_rfl)).1;have hBx:=JA.of_ff h16 h19 hJ;have z0:=((hBt.below hBx hBt.lt).cell off).trans q0;refine .inl ⟨by kernel_rfl,fun K Q hK=>?_⟩;simp only[putAll,Act.put,Nat.reduceAdd,h3] at hK ⊢;go_simp;refine Eq.mp ?_ (hK (.slice Ab s.b.length cb) _ hJ rfl (fun _ _ _ h=>h))
     kernel_rfl
    case o5a =>
     intro d us wx hd hJ hp hu hi;refine .inl ⟨by kernel_rfl,fun K Q hK=>?_⟩;simp only[putAll,Act.put,Nat.reduceAdd] at hK ⊢;go_simp;refine Eq.mp ?_ (hK (.int .i64 (n:Nat)) _ hJ rfl (fun _ _ _ h=>h))
     kernel_rfl
    case o6a =>
     intro d us wx hd hJ hp hu hi;have h5:us 5=_:=(hp 5 (by simp[Region.binds])).2;refine .inl ⟨by kernel_rfl,fun K Q hK=>?_⟩;simp only[putAll,Act.put,Nat.reduceAdd,h5] at hK ⊢;go_simp;rw[hnw.out];refine Eq.mp ?_ (hK (.int .u64 (n:Nat)) _ hJ rfl (fun _ _ _ h=>h))
     kernel_rfl
    case o7a =>
     intro d us wx hd hJ hp hu hi;have h6:us 6=_:=(hp 6 (by simp[Region.binds])).2;have h16:=(hu 16 (by kernel_rfl)).1;have h19:=(hu 19 (by kernel_rfl)).1;have hBx:=JA.of_ff h16 h19 hJ;refine .inl ⟨by kernel_rfl,fun K Q hK=>?_⟩;simp only[putAll,Act.put,Nat.reduceAdd,h6] at hK ⊢;go_simp;refine Eq.mp ?_ (hK (.slice (some ⟨wx.heap.size,0,none⟩) 1 1) (wx.alloc (.cells #[.int .u64 (n:Nat)] 34)) (JA.ff h16 h19 (hBx.alloc hBx.size _)) ⟨wx.heap.size,rfl,hBx.size,(by rw[World.size_alloc];omega),(by simp[go_sem])⟩ (fun k u _ h=>tauL_mono (SA.mono ((Below.refl _ _).alloc (Nat.le_refl _) _)) k u h))
     kernel_rfl
    case o8a =>
     intro d us wx hd hJ hp hu hi;have hs7:SA W1 B n (k.extract n k.size) v (.slice Ab s.b.length cb) (s.b++s.enc k.data.toList v.data.toList) 7 (us 7) wx:=(hp 7 (by simp[Region.binds])).2;obtain⟨b7,h7,hb7,hl7,hc7⟩:=hs7;have h16:=(hu 16 (by kernel_rfl)).1;have h19:=(hu 19 (by kernel_rfl)).1;have hBx:=JA.of_ff h16 h19 hJ;refine .inl ⟨by kernel_rfl,fun K Q hK=>?_⟩;simp only[putAll,Act.put,Nat.reduceAdd,h7] at hK ⊢;go_simp
     go_at_call 145
     refine (Var_one b7 _ wx hl7 hc7 (by omega) (by omega)).mono ?_;rintro e w9 ⟨rfl,hb9⟩;refine Eq.mp ?_ (hK (.string (bs (varL1 n))) w9 (JA.ff h16 h19 (hBx.trans (hb9.mono hBx.size))) rfl (fun k u _ h=>tauL_mono (SA.mono hb9) k u h));rw[Int.toNat_natCast]
     kernel_rfl
    case o9a =>
     intro d us wx hd hJ hp hu hi;refine .inl ⟨by kernel_rfl,fun K Q hK=>?_⟩;simp only[putAll,Act.put,Nat.reduceAdd] at hK ⊢;go_simp;refine Eq.mp ?_ (hK (.string k) _ hJ rfl (fun _ _ _ h=>h))
     kernel_rfl
    case o10a =>
     intro d us wx hd hJ hp hu hi;refine .inl ⟨by kernel_rfl,fun K Q hK=>?_⟩;simp only[putAll,Act.put,Nat.reduceAdd] at hK ⊢;go_simp;refine Eq.mp ?_ (hK (.int .i64 (n:Nat)) _ hJ rfl (fun _ _ _ h=>h))
     kernel_rfl
    case o11a =>
     intro d us wx hd hJ hp hu hi;have h9:us 9=_:=(hp 9 (by simp[Region.binds])).2;have h10:us 10=_:=(hp 10 (by simp[Region.binds])).2;refine .inl ⟨by kernel_rfl,fun K Q hK=>?_⟩;simp only[putAll,Act.put,Nat.reduceAdd,h9,h10] at hK ⊢;go_simp;refine Eq.mp ?_ (hK (.string (k.extract n k.size)) _ hJ rfl (fun _ _ _ h=>h))
     kernel_rfl
    case o12a =>
     intro d us wx hd hJ hp hu hi;refine .inl ⟨by kernel_rfl,fun K Q hK=>?_⟩;simp only[putAll,Act.put,Nat.reduceAdd] at hK ⊢;go_simp;refine Eq.mp ?_ (hK (.string v) _ hJ rfl (fun _ _ _ h=>h))
     kernel_rfl
    case o13a =>
     intro d us wx hd hJ hp hu hi;have h11:us 11=_:=(hp 11 (by simp[Region.binds])).2;have h12:us 12=_:=(hp 12 (by simp[Region.binds])).2;have h16:=(hu 16 (by kernel_rfl)).1;have h19:=(hu 19 (by kernel_rfl)).1;have hBx:=JA.of_ff h16 h19 hJ;refine .inl ⟨by kernel_rfl,fun K Q hK=>?_⟩;simp only[putAll,Act.put,Nat.reduceAdd,h11,h12] at hK ⊢;go_simp;refine Eq.mp ?_ (hK (.slice (some ⟨wx.heap.size,0,none⟩) 2 2) (wx.alloc (.cells #[.string (k.extract n k.size),.string v] 9)) (JA.ff h16 h19 (hBx.alloc hBx.size _)) ⟨wx.heap.size,rfl,hBx.size,(by rw[World.size_alloc];omega),((Blk.new _ _ _).cell 0),((Blk.new _ _ _).cell 1)⟩ (fun k u _ h=>tauL_mono (SA.mono ((Below.refl _ _).alloc (Nat.le_refl _) _)) k u h))
     kernel_rfl
    case o14a =>
     intro d us wx hd hJ hp hu hi;have hs13:SA W1 B n (k.extract n k.size) v (.slice Ab s.b.length cb) (s.b++s.enc k.data.toList v.data.toList) 13 (us 13) wx:=(hp 13 (by simp[Region.binds])).2;obtain⟨b13,h13,hb13,hl13,hc13,hd13⟩:=hs13;have h16:=(hu 16 (by kernel_rfl)).1;have h19:=(hu 19 (by kernel_rfl)).1;have hBx:=JA.of_ff h16 h19 hJ;refine .inl ⟨by kernel_rfl,fun K Q hK=>?_⟩;simp only[putAll,Act.put,Nat.reduceAdd,h13] at hK ⊢;go_simp
     go_at_call 146
     refine (Text_two b13 _ _ wx hl13 hc13 hd13 hz11 hzv).mono ?_;rintro e w9 ⟨rfl,hb9⟩;refine Eq.mp ?_ (hK (.string (bs (textL [k.data.toList.drop n,v.data.toList]))) w9 (JA.ff h16 h19 (hBx.trans (hb9.mono hBx.size))) rfl (fun k u _ h=>tauL_mono (SA.mono hb9) k u h));rw[hdr.out]
     kernel_rfl
    case o15a =>
     intro d us wx hd hJ hp hu hi;have h8:us 8=_:=(hp 8 (by simp[Region.binds])).2;have h14:us 14=_:=(hp 14 (by simp[Region.binds])).2;refine .inl ⟨by kernel_rfl,fun K Q hK=>?_⟩;simp only[putAll,Act.put,Nat.reduceAdd,h8,h14] at hK ⊢;go_simp;rw[if_neg hcat.out];go_simp;refine Eq.mp ?_ (hK (.string (bs (varL1 n)++bs (textL [k.data.toList.drop n,v.data.toList]))) _ hJ rfl (fun _ _ _ h=>h))
     kernel_rfl
    case o16a =>
     intro d us wx hd hJ hp hu hi;have h4:us 4=_:=(hp 4 (by simp[Region.binds])).2;have h15:us 15=_:=(hp 15 (by simp[Region.binds])).2;have h16:=hd;have h19:=(hu 19 (by kernel_rfl)).1;have hBx:=JA.of_ff h16 h19 hJ;have hOx:OwnB wx B _ _:=own_block hOt.out (fun k hk=>hBx.block k (own_lt hOt.out k hk).2);refine .inl ⟨by kernel_rfl,fun K Q hK=>?_⟩;simp only[putAll,Act.put,Nat.reduceAdd,h4,h15] at hK ⊢;refine wp_append_str (.tmp 65) (.tmp 76) rfl B _ s.b (by kernel_rfl) hOx (bs (varL1 n)++bs (textL [k.data.toList.drop n,v.data.toList])) (by kernel_rfl) hzz (by have:=hBx.size;omega) ?_;intro v9 w9 ho9 hg9 hat9;rw[hen.out] at ho9
     have hk9:KeptBut wx w9 (fun k=>(Value.slice Ab s.b.length cb).ownBlock=some k):=(KeptBut.refl _ _).then_grown hg9 (fun k e=>e)
     refine Eq.mp ?_ (hK v9 w9 (JA.tf h19 ((KeptBut.of_below hBx).trans hk9 (fun k _ e=>e))) ⟨ho9,Moved.of_at (fun k hk=>hat9 k hk) hBx.size ho9 (fun e=>absurd e (own_some ho9 (by rw[List.length_append];have:=hep.out;omega)))⟩ (fun k u hk h=>tauL_mono2 (SA.mono2 hk9 (fun k e=>(own_lt hOt.out k e).2)) k u hk h))
     kernel_rfl
    case o17a =>
     intro d us wx hd hJ hp hu hi;have h0:us 0=_:=(hp 0 (by simp[Region.binds])).2;refine .inl ⟨by kernel_rfl,fun K Q hK=>?_⟩;simp only[putAll,Act.put,Nat.reduceAdd,h0] at hK ⊢;go_simp;refine Eq.mp ?_ (hK (.pointer (some ⟨g,off,none⟩)) _ hJ rfl (fun _ _ _ h=>h))
     kernel_rfl
    case o18a =>
     intro d us wx hd hJ hp hu hi;have h17:us 17=_:=(hp 17 (by simp[Region.binds])).2;refine .inl ⟨by kernel_rfl,fun K Q hK=>?_⟩;simp only[putAll,Act.put,Nat.reduceAdd,h17] at hK ⊢;go_simp;refine Eq.mp ?_ (hK (.pointer (some ⟨g,off,none⟩)) _ hJ rfl (fun _ _ _ h=>h))
     kernel_rfl
    case o19a =>
     intro d us wx hd hJ hp hu hi;have h18:us 18=_:=(hp 18 (by simp[Region.binds])).2;have hs16:SA W1 B n (k.extract n k.size) v (.slice Ab s.b.length cb) (s.b++s.enc k.data.toList v.data.toList) 16 (us 16) wx:=(hp 16 (by simp[Region.binds])).2;obtain⟨A9,c9,h16v⟩:=hs16.1.form;rw[List.length_append] at h16v;rw[h16v] at hs16;have hd16:=(hp 16 (by simp[Region.binds])).1;have hkx:KeptBut W1 wx _:=JA.of_tf hd (by have:=hJ;rw[hd16] at this;exact this);have hBg:=hBt.keptB hkx hgb.out;have z0:=(hBg.cell off).trans q0;have z1:=hBg.frozen off;refine .inl ⟨by kernel_rfl,fun K Q hK=>?_⟩;simp only[putAll,Act.put,Nat.reduceAdd,h18,h16v] at hK ⊢;go_simp
     refine Eq.mp ?_ (hK (undef) (wx.setCell ⟨g,off,none⟩ (.slice A9 (s.b.length+(s.enc k.data.toList v.data.toList).length) c9)) (JA.tt hd16 ⟨_,own_set hs16.1 hBg h.tb,hs16.2,(hkx.mono (fun k _ e=>.inr e)).then_set (.inl rfl),hBg.set_ off _⟩) trivial (fun k u _ h=>tauL_mono (SA.mono3 hBt.lt hBg htb) k u h))
     kernel_rfl
   intro d us wx hJ hall;have hd16:=(hall 16 (by simp)).1;have hd19:=(hall 19 (by simp)).1;obtain⟨v9,ho9,hm9,hk9,hb9⟩:=JA.of_tt hd16 hd19 hJ;simp only[putAll,Act.put,Nat.reduceAdd];have x2:wx.cell? ⟨g,off+2,none⟩=some (.int .i64 s.count):=(hb9.cell (off+2)).trans (by rw[Array.getElem?_setIfInBounds_ne (by omega)];exact q2);have x3:wx.cell? ⟨g,off+3,none⟩=some (.string (bs s.last)):=(hb9.cell (off+3)).trans (by rw[Array.getElem?_setIfInBounds_ne (by omega)];exact q3);have g2:=hb9.frozen (off+2);have g3:=hb9.frozen (off+3);clear hJ hall;go_wp2_with fail
   go_ret
   refine⟨rfl,h.put_end hcs1 hKt.out ?_ hm2.out ?_ ho9 hm9 hk9 hb9 ?_ ?_ ?_⟩
   ·have:(s.put k.data.toList v.data.toList).starts=s.starts++[s.b.length]:=by unfold BB.put;simp[hm]
    rw[this];exact hWt.out
   ·exact own_blk_ne hWt.out hBt (fun e=>h.tw e.symm)
   ·exact own_types hOt.out hWt.out (by decide)
   ·rw[bs_of]
   ·first | rfl | (simp;done) | trace_state
  ·have h0':¬(0:Int)<s.count:=by omega
   clear hor hle
   go_enter Tryz.func105,Tryz.ntmps105
   go_wp2_with fail
   have hxc:=@Ext.cell;have hxf:=@Ext.frozen;refine wp_hide (fun Q0 hQ0=>?_);refine wp_region_line (fun w'=>∃x:Ext _,w'=x.w) [some true,some false,some false,some false,some false,some false,some false,some false,some false,some false,some false,none,none,none,none,none] 1 (by kernel_rfl) (by kernel_rfl) ⟨⟨_,(Below.refl _ _).drew⟩,rfl⟩ ?_;simp only[earlyL,tailL]
   repeat (first | ((with_reducible refine wpMix_p ?_);go_big_quiet_step (fail);refine wpQuiet_nil ?_) | ((with_reducible refine wpMix_e ?_);go_big_quiet_step ((first | fail));refine wpQuiet_nil ?_))
   refine wpMix_nil ?_;clear hxc hxf;intro wx hwx;obtain⟨x,hx⟩:=hwx;have hb:=x.below;rw[←hx] at hb;clear hx x;have hbs:=hb.size;have hown:=own_block h.os (fun k hk=>hb.block k (own_lt h.os k hk).2);have hownx:=World.ownsRow.alloc hown (.cells #[.int .u64 (s.b.length:Nat)] 34);have hrd:=new_u64 wx (s.b.length:Nat) 34
   have hone:∀u∈[Value.int .u64 (s.b.length:Nat)],u.oneCell'=true:=by
    intro u hu;simp at hu;subst hu;rfl
   have hBx:B≤(wx.alloc (.cells #[.int .u64 (s.b.length:Nat)] 34)).heap.size:=by rw[World.size_alloc];omega
   replace hone:=Lib.hid hone;clear hown;refine wpTail_step ?_;intro Q1 hQ1;go_wp2_with fail
   refine hQ1 _ _ rfl (fun _=>⟨⟨_,hb.alloc hbs _⟩,rfl⟩) ?_;clear hQ1 Q1;refine wpTail_step ?_;intro Q1 hQ1
   go_wp2_with (at_builtin;refine wpList_append_any _ rfl (.tmp 44) (.tmp 51) 155 rfl B 34 i0 (.int .u64 0) 1 8 Tryz.underlying155 hi0 hz0 hz1 hz2 rfl (by omega) (.slice As s.starts.length cas) s.starts.length (s.starts.map fun n=>Value.int .u64 (n:Nat)) rfl hownx (wx.heap.size+1) (some ⟨wx.heap.size,0,none⟩) 1 1 [.int .u64 (s.b.length:Nat)] rfl hrd hone.out (by unfold maxLen;omega) (by omega) hBx ?_;intro v2 w2 hown2 hgr2 hat2)
   refine hQ1 _ _ rfl (fun h=>absurd h (by decide)) ?_;clear hQ1 Q1;have ho2:=OwnW.of_law hown2;obtain⟨A2,c2',e2⟩:=ho2.form;rw[List.length_append,List.length_singleton] at e2;subst e2
   have hk2:KeptBut w w2 (fun k=>(Value.slice As s.starts.length cas).ownBlock=some k):=(KeptBut.of_below (hb.alloc hbs _)).then_grown hgr2 (fun k e=>e)
   have hm2:Moved w (.slice As s.starts.length cas) (.slice A2 (s.starts.length+1) c2'):=by
    rcases hat2 with e | e
    ·exact .inl e
    ·exact .inr ⟨_,e,by rw[World.size_alloc];omega⟩
   have hB2:Blk w2 g t cs:=h.blk.keptB hk2 h.gs;have hO2:OwnB w2 B (.slice Ab s.b.length cb) s.b:=own_kept h.ob hk2 h.nbs;have y1:=hB2.frozen (off+1);have y2:=(hB2.cell (off+1)).trans h.e1;replace hk2:=Lib.hid hk2;replace hm2:=Lib.hid hm2;replace hB2:=Lib.hid hB2;replace hO2:=Lib.hid hO2;replace ho2:=Lib.hid ho2;clear hown2 hgr2 hat2 hownx hrd hone;refine wpTail_step ?_;intro Q1 hQ1
   go_wp2_with (fail)
   refine hQ1 _ _ rfl (fun h=>absurd h (by decide)) ?_;clear hQ1 Q1;refine wpTail_step ?_;intro Q1 hQ1
   go_wp2_with (fail)
   refine hQ1 _ _ rfl (fun h=>absurd h (by decide)) ?_;clear hQ1 Q1;refine wpTail_step ?_;intro Q1 hQ1
   go_wp2_with (fail)
   refine hQ1 _ _ rfl (fun h=>absurd h (by decide)) ?_;clear hQ1 Q1;refine wpTail_nil ?_;refine hQ0 _ _ ?_;clear hQ0 Q0;go_wp2_with fail
   have hL:s.lead k.data.toList=0:=by unfold BB.lead;rw[if_pos hm]
   obtain⟨n,hn⟩:∃n:Nat,n=0:=⟨0,rfl⟩;rw (occs:=.pos [2]) [show (Value.int .i64 0)=Value.int .i64 ((n:Nat):Int) from by rw[hn];rfl]
   have hnk:n≤k.size:=by omega
   have hL':=Lib.hid (show s.lead k.data.toList=n from by rw[hL,hn]);obtain⟨cs1,hcs1⟩:∃c,c=cs.setIfInBounds (off+1) (.slice A2 (s.starts.length+1) c2'):=⟨_,rfl⟩;have hBt:=hB2.out.set_ (off+1) (.slice A2 (s.starts.length+1) c2');rw[←hcs1] at hBt;have hOt:=Lib.hid (own_set hO2.out hB2.out h.tb (o:=off+1) (u:=.slice A2 (s.starts.length+1) c2'));have hWt:=Lib.hid (own_set ho2.out hB2.out h.tw (o:=off+1) (u:=.slice A2 (s.starts.length+1) c2'))
   have hKt:=Lib.hid ((hk2.out.mono (S':=BS g (.slice Ab s.b.length cb) (.slice As s.starts.length cas)) (fun k _ e=>.inr (.inr e))).then_set (b:=g) (o:=off+1) (v:=.slice A2 (s.starts.length+1) c2') (.inl rfl))
   generalize w2.setCell ⟨g,off+1,none⟩ (.slice A2 (s.starts.length+1) c2')=W1 at *
   have q0:cs1[off]? = some (.slice Ab s.b.length cb):=by rw[hcs1,Array.getElem?_setIfInBounds_ne (by omega)];exact h.e0
   have q2:cs1[off+2]? = some (.int .i64 s.count):=by rw[hcs1,Array.getElem?_setIfInBounds_ne (by omega)];exact h.e2
   have q3:cs1[off+3]? = some (.string (bs s.last)):=by rw[hcs1,Array.getElem?_setIfInBounds_ne (by omega)];exact h.e3
   have hen:Hid ((bs (varL1 n)++bs (textL [k.data.toList.drop n,v.data.toList])).data.toList=s.enc k.data.toList v.data.toList):=by
    unfold BB.enc;rw[hL'.out,bs_append,bs_data];exact rfl
   have hdr:Hid ((k.extract n k.size).data.toList=k.data.toList.drop n):=by
    have:(k.extract n k.size).data.toList=k.data.toList.drop n:=by rw[ext_bs,bs_data,List.take_of_length_le];simp[dlen]
    exact this
   have hgb:=Lib.hid h.gb
   have hz11:(k.extract n k.size).size≤1099511627776:=by simp;omega
   have hzv:v.size≤1099511627776:=by omega
   have hBW:B≤W1.heap.size:=by have:=hBt.lt;have:=h.hB;omega
   have hep:Hid (0<(s.enc k.data.toList v.data.toList).length):=s.enc_pos _ _
   have hzz:s.b.length+(bs (varL1 n)++bs (textL [k.data.toList.drop n,v.data.toList])).size≤70368744177664:=by
    have h3:=s.enc_len k.data.toList v.data.toList;rw[←hen.out,dlen,dlen,dlen] at h3;omega
   replace hn:=Lib.hid hn;replace hL:=Lib.hid hL
   have hcat:Hid (¬9223372036854775807<(bs (varL1 n)).size+(bs (textL [k.data.toList.drop n,v.data.toList])).size):=by
    have:¬9223372036854775807<(bs (varL1 n)).size+(bs (textL [k.data.toList.drop n,v.data.toList])).size:=by rw[ByteArray.size_append] at hzz;omega
    exact this
   have hnw:Hid (IntKind.u64.wrap ((n:Nat):Int)=((n:Nat):Int)):=by
    have:IntKind.u64.wrap ((n:Nat):Int)=((n:Nat):Int):=by rw[IntKind.wrap_u64];omega
    exact this
   refine wp_region_task (fun d w'=>JA W1 B g t off cs1 (.slice Ab s.b.length cb) (s.b++s.enc k.data.toList v.data.toList) (d 16) (d 19) w') (tauL [some (.pointer (some ⟨g,off,none⟩)),some (.pointer (some ⟨g,off,none⟩)),some (.pointer (some ⟨g,off,none⟩)),some (.pointer (some ⟨g,off,none⟩)),some (.slice Ab s.b.length cb),some (.int .i64 (n:Nat)),some (.int .u64 (n:Nat)),none,some (.string (bs (varL1 n))),some (.string k),some (.int .i64 (n:Nat)),some (.string (k.extract n k.size)),some (.string v),none,some (.string (bs (textL [k.data.toList.drop n,v.data.toList]))),some (.string (bs (varL1 n)++bs (textL [k.data.toList.drop n,v.data.toList]))),none,some (.pointer (some ⟨g,off,none⟩)),some (.pointer (some ⟨g,off,none⟩)),none] (SA W1 B n (k.extract n k.size) v (.slice Ab s.b.length cb) (s.b++s.enc k.data.toList v.data.toList))) (usL (List.replicate 19 undef)) ?m1b ?m2b ?m3b ?m4b (Below.refl _ _).drew ?m5b ?m6b
   case m1b=>kernel_rfl
   case m2b=>kernel_rfl
   case m3b=>kernel_rfl
   case m4b=>kernel_rfl
   case m5b =>
    refine⟨?o0b,?o1b,?o2b,?o3b,?o4b,?o5b,?o6b,?o7b,?o8b,?o9b,?o10b,?o11b,?o12b,?o13b,?o14b,?o15b,?o16b,?o17b,?o18b,?o19b,trivial⟩
    case o0b =>
     intro d us wx hd hJ hp hu hi;refine .inl ⟨by kernel_rfl,fun K Q hK=>?_⟩;simp only[putAll,Act.put,Nat.reduceAdd] at hK ⊢;go_simp;refine Eq.mp ?_ (hK (.pointer (some ⟨g,off,none⟩)) _ hJ rfl (fun _ _ _ h=>h))
     kernel_rfl
    case o1b =>
     intro d us wx hd hJ hp hu hi;refine .inl ⟨by kernel_rfl,fun K Q hK=>?_⟩;simp only[putAll,Act.put,Nat.reduceAdd] at hK ⊢;go_simp;refine Eq.mp ?_ (hK (.pointer (some ⟨g,off,none⟩)) _ hJ rfl (fun _ _ _ h=>h))
     kernel_rfl
    case o2b =>
     intro d us wx hd hJ hp hu hi;have h1:us 1=_:=(hp 1 (by simp[Region.binds])).2;refine .inl ⟨by kernel_rfl,fun K Q hK=>?_⟩;simp only[putAll,Act.put,Nat.reduceAdd,h1] at hK ⊢;go_simp;refine Eq.mp ?_ (hK (.pointer (some ⟨g,off,none⟩)) _ hJ rfl (fun _ _ _ h=>h))
     kernel_rfl
    case o3b =>
     intro d us wx hd hJ hp hu hi;have h2:us 2=_:=(hp 2 (by simp[Region.binds])).2;refine .inl ⟨by kernel_rfl,fun K Q hK=>?_⟩;simp only[putAll,Act.put,Nat.reduceAdd,h2] at hK ⊢;go_simp;refine Eq.mp ?_ (hK (.pointer (some ⟨g,off,none⟩)) _ hJ rfl (fun _ _ _ h=>h))
     kernel_rfl
    case o4b =>
     intro d us wx hd hJ hp hu hi;have h3:us 3=_:=(hp 3 (by simp[Region.binds])).2;have h16:=(hu 16 (by kernel_rfl)).1;have h19:=(hu 19 (by kernel_rfl)).1;have hBx:=JA.of_ff h16 h19 hJ;have z0:=((hBt.below hBx hBt.lt).cell off).trans q0;refine .inl ⟨by kernel_rfl,fun K Q hK=>?_⟩;simp only[putAll,Act.put,Nat.reduceAdd,h3] at hK ⊢;go_simp;refine Eq.mp ?_ (hK (.slice Ab s.b.length cb) _ hJ rfl (fun _ _ _ h=>h))
     kernel_rfl
    case o5b =>
     intro d us wx hd hJ hp hu hi;refine .inl ⟨by kernel_rfl,fun K Q hK=>?_⟩;simp only[putAll,Act.put,Nat.reduceAdd] at hK ⊢;go_simp;refine Eq.mp ?_ (hK (.int .i64 (n:Nat)) _ hJ rfl (fun _ _ _ h=>h))
     kernel_rfl
    case o6b =>
     intro d us wx hd hJ hp hu hi;have h5:us 5=_:=(hp 5 (by simp[Region.binds])).2;refine .inl ⟨by kernel_rfl,fun K Q hK=>?_⟩;simp only[putAll,Act.put,Nat.reduceAdd,h5] at hK ⊢;go_simp;rw[hnw.out];refine Eq.mp ?_ (hK (.int .u64 (n:Nat)) _ hJ rfl (fun _ _ _ h=>h))
     kernel_rfl
    case o7b =>
     intro d us wx hd hJ hp hu hi;have h6:us 6=_:=(hp 6 (by simp[Region.binds])).2;have h16:=(hu 16 (by kernel_rfl)).1;have h19:=(hu 19 (by kernel_rfl)).1;have hBx:=JA.of_ff h16 h19 hJ;refine .inl ⟨by kernel_rfl,fun K Q hK=>?_⟩;simp only[putAll,Act.put,Nat.reduceAdd,h6] at hK ⊢;go_simp;refine Eq.mp ?_ (hK (.slice (some ⟨wx.heap.size,0,none⟩) 1 1) (wx.alloc (.cells #[.int .u64 (n:Nat)] 34)) (JA.ff h16 h19 (hBx.alloc hBx.size _)) ⟨wx.heap.size,rfl,hBx.size,(by rw[World.size_alloc];omega),(by simp[go_sem])⟩ (fun k u _ h=>tauL_mono (SA.mono ((Below.refl _ _).alloc (Nat.le_refl _) _)) k u h))
     kernel_rfl
    case o8b =>
     intro d us wx hd hJ hp hu hi;have hs7:SA W1 B n (k.extract n k.size) v (.slice Ab s.b.length cb) (s.b++s.enc k.data.toList v.data.toList) 7 (us 7) wx:=(hp 7 (by simp[Region.binds])).2;obtain⟨b7,h7,hb7,hl7,hc7⟩:=hs7;have h16:=(hu 16 (by kernel_rfl)).1;have h19:=(hu 19 (by kernel_rfl)).1;have hBx:=JA.of_ff h16 h19 hJ;refine .inl ⟨by kernel_rfl,fun K Q hK=>?_⟩;simp only[putAll,Act.put,Nat.reduceAdd,h7] at hK ⊢;go_simp
     go_at_call 145
     refine (Var_one b7 _ wx hl7 hc7 (by omega) (by omega)).mono ?_;rintro e w9 ⟨rfl,hb9⟩;refine Eq.mp ?_ (hK (.string (bs (varL1 n))) w9 (JA.ff h16 h19 (hBx.trans (hb9.mono hBx.size))) rfl (fun k u _ h=>tauL_mono (SA.mono hb9) k u h));rw[Int.toNat_natCast]
     kernel_rfl
    case o9b =>
     intro d us wx hd hJ hp hu hi;refine .inl ⟨by kernel_rfl,fun K Q hK=>?_⟩;simp only[putAll,Act.put,Nat.reduceAdd] at hK ⊢;go_simp;refine Eq.mp ?_ (hK (.string k) _ hJ rfl (fun _ _ _ h=>h))
     kernel_rfl
    case o10b =>
     intro d us wx hd hJ hp hu hi;refine .inl ⟨by kernel_rfl,fun K Q hK=>?_⟩;simp only[putAll,Act.put,Nat.reduceAdd] at hK ⊢;go_simp;refine Eq.mp ?_ (hK (.int .i64 (n:Nat)) _ hJ rfl (fun _ _ _ h=>h))
     kernel_rfl
    case o11b =>
     intro d us wx hd hJ hp hu hi;have h9:us 9=_:=(hp 9 (by simp[Region.binds])).2;have h10:us 10=_:=(hp 10 (by simp[Region.binds])).2;refine .inl ⟨by kernel_rfl,fun K Q hK=>?_⟩;simp only[putAll,Act.put,Nat.reduceAdd,h9,h10] at hK ⊢;go_simp;refine Eq.mp ?_ (hK (.string (k.extract n k.size)) _ hJ rfl (fun _ _ _ h=>h))
     kernel_rfl
    case o12b =>
     intro d us wx hd hJ hp hu hi;refine .inl ⟨by kernel_rfl,fun K Q hK=>?_⟩;simp only[putAll,Act.put,Nat.reduceAdd] at hK ⊢;go_simp;refine Eq.mp ?_ (hK (.string v) _ hJ rfl (fun _ _ _ h=>h))
     kernel_rfl
    case o13b =>
     intro d us wx hd hJ hp hu hi;have h11:us 11=_:=(hp 11 (by simp[Region.binds])).2;have h12:us 12=_:=(hp 12 (by simp[Region.binds])).2;have h16:=(hu 16 (by kernel_rfl)).1;have h19:=(hu 19 (by kernel_rfl)).1;have hBx:=JA.of_ff h16 h19 hJ;refine .inl ⟨by kernel_rfl,fun K Q hK=>?_⟩;simp only[putAll,Act.put,Nat.reduceAdd,h11,h12] at hK ⊢;go_simp;refine Eq.mp ?_ (hK (.slice (some ⟨wx.heap.size,0,none⟩) 2 2) (wx.alloc (.cells #[.string (k.extract n k.size),.string v] 9)) (JA.ff h16 h19 (hBx.alloc hBx.size _)) ⟨wx.heap.size,rfl,hBx.size,(by rw[World.size_alloc];omega),((Blk.new _ _ _).cell 0),((Blk.new _ _ _).cell 1)⟩ (fun k u _ h=>tauL_mono (SA.mono ((Below.refl _ _).alloc (Nat.le_refl _) _)) k u h))
     kernel_rfl
    case o14b =>
     intro d us wx hd hJ hp hu hi;have hs13:SA W1 B n (k.extract n k.size) v (.slice Ab s.b.length cb) (s.b++s.enc k.data.toList v.data.toList) 13 (us 13) wx:=(hp 13 (by simp[Region.binds])).2;obtain⟨b13,h13,hb13,hl13,hc13,hd13⟩:=hs13;have h16:=(hu 16 (by kernel_rfl)).1;have h19:=(hu 19 (by kernel_rfl)).1;have hBx:=JA.of_ff h16 h19 hJ;refine .inl ⟨by kernel_rfl,fun K Q hK=>?_⟩;simp only[putAll,Act.put,Nat.reduceAdd,h13] at hK ⊢;go_simp
     go_at_call 146
     refine (Text_two b13 _ _ wx hl13 hc13 hd13 hz11 hzv).mono ?_;rintro e w9 ⟨rfl,hb9⟩;refine Eq.mp ?_ (hK (.string (bs (textL [k.data.toList.drop n,v.data.toList]))) w9 (JA.ff h16 h19 (hBx.trans (hb9.mono hBx.size))) rfl (fun k u _ h=>tauL_mono (SA.mono hb9) k u h));rw[hdr.out]
     kernel_rfl
    case o15b =>
     intro d us wx hd hJ hp hu hi;have h8:us 8=_:=(hp 8 (by simp[Region.binds])).2;have h14:us 14=_:=(hp 14 (by simp[Region.binds])).2;refine .inl ⟨by kernel_rfl,fun K Q hK=>?_⟩;simp only[putAll,Act.put,Nat.reduceAdd,h8,h14] at hK ⊢;go_simp;rw[if_neg hcat.out];go_simp;refine Eq.mp ?_ (hK (.string (bs (varL1 n)++bs (textL [k.data.toList.drop n,v.data.toList]))) _ hJ rfl (fun _ _ _ h=>h))
     kernel_rfl
    case o16b =>
     intro d us wx hd hJ hp hu hi;have h4:us 4=_:=(hp 4 (by simp[Region.binds])).2;have h15:us 15=_:=(hp 15 (by simp[Region.binds])).2;have h16:=hd;have h19:=(hu 19 (by kernel_rfl)).1;have hBx:=JA.of_ff h16 h19 hJ;have hOx:OwnB wx B _ _:=own_block hOt.out (fun k hk=>hBx.block k (own_lt hOt.out k hk).2);refine .inl ⟨by kernel_rfl,fun K Q hK=>?_⟩;simp only[putAll,Act.put,Nat.reduceAdd,h4,h15] at hK ⊢;refine wp_append_str (.tmp 65) (.tmp 76) rfl B _ s.b (by kernel_rfl) hOx (bs (varL1 n)++bs (textL [k.data.toList.drop n,v.data.toList])) (by kernel_rfl) hzz (by have:=hBx.size;omega) ?_;intro v9 w9 ho9 hg9 hat9;rw[hen.out] at ho9
     have hk9:KeptBut wx w9 (fun k=>(Value.slice Ab s.b.length cb).ownBlock=some k):=(KeptBut.refl _ _).then_grown hg9 (fun k e=>e)
     refine Eq.mp ?_ (hK v9 w9 (JA.tf h19 ((KeptBut.of_below hBx).trans hk9 (fun k _ e=>e))) ⟨ho9,Moved.of_at (fun k hk=>hat9 k hk) hBx.size ho9 (fun e=>absurd e (own_some ho9 (by rw[List.length_append];have:=hep.out;omega)))⟩ (fun k u hk h=>tauL_mono2 (SA.mono2 hk9 (fun k e=>(own_lt hOt.out k e).2)) k u hk h))
     kernel_rfl
    case o17b =>
     intro d us wx hd hJ hp hu hi;have h0:us 0=_:=(hp 0 (by simp[Region.binds])).2;refine .inl ⟨by kernel_rfl,fun K Q hK=>?_⟩;simp only[putAll,Act.put,Nat.reduceAdd,h0] at hK ⊢;go_simp;refine Eq.mp ?_ (hK (.pointer (some ⟨g,off,none⟩)) _ hJ rfl (fun _ _ _ h=>h))
     kernel_rfl
    case o18b =>
     intro d us wx hd hJ hp hu hi;have h17:us 17=_:=(hp 17 (by simp[Region.binds])).2;refine .inl ⟨by kernel_rfl,fun K Q hK=>?_⟩;simp only[putAll,Act.put,Nat.reduceAdd,h17] at hK ⊢;go_simp;refine Eq.mp ?_ (hK (.pointer (some ⟨g,off,none⟩)) _ hJ rfl (fun _ _ _ h=>h))
     kernel_rfl
    case o19b =>
     intro d us wx hd hJ hp hu hi;have h18:us 18=_:=(hp 18 (by simp[Region.binds])).2;have hs16:SA W1 B n (k.extract n k.size) v (.slice Ab s.b.length cb) (s.b++s.enc k.data.toList v.data.toList) 16 (us 16) wx:=(hp 16 (by simp[Region.binds])).2;obtain⟨A9,c9,h16v⟩:=hs16.1.form;rw[List.length_append] at h16v;rw[h16v] at hs16;have hd16:=(hp 16 (by simp[Region.binds])).1;have hkx:KeptBut W1 wx _:=JA.of_tf hd (by have:=hJ;rw[hd16] at this;exact this);have hBg:=hBt.keptB hkx hgb.out;have z0:=(hBg.cell off).trans q0;have z1:=hBg.frozen off;refine .inl ⟨by kernel_rfl,fun K Q hK=>?_⟩;simp only[putAll,Act.put,Nat.reduceAdd,h18,h16v] at hK ⊢;go_simp
     refine Eq.mp ?_ (hK (undef) (wx.setCell ⟨g,off,none⟩ (.slice A9 (s.b.length+(s.enc k.data.toList v.data.toList).length) c9)) (JA.tt hd16 ⟨_,own_set hs16.1 hBg h.tb,hs16.2,(hkx.mono (fun k _ e=>.inr e)).then_set (.inl rfl),hBg.set_ off _⟩) trivial (fun k u _ h=>tauL_mono (SA.mono3 hBt.lt hBg htb) k u h))
     kernel_rfl
   intro d us wx hJ hall;have hd16:=(hall 16 (by simp)).1;have hd19:=(hall 19 (by simp)).1;obtain⟨v9,ho9,hm9,hk9,hb9⟩:=JA.of_tt hd16 hd19 hJ;simp only[putAll,Act.put,Nat.reduceAdd];have x2:wx.cell? ⟨g,off+2,none⟩=some (.int .i64 s.count):=(hb9.cell (off+2)).trans (by rw[Array.getElem?_setIfInBounds_ne (by omega)];exact q2);have x3:wx.cell? ⟨g,off+3,none⟩=some (.string (bs s.last)):=(hb9.cell (off+3)).trans (by rw[Array.getElem?_setIfInBounds_ne (by omega)];exact q3);have g2:=hb9.frozen (off+2);have g3:=hb9.frozen (off+3);clear hJ hall;go_wp2_with fail
   go_ret
   refine⟨rfl,h.put_end hcs1 hKt.out ?_ hm2.out ?_ ho9 hm9 hk9 hb9 ?_ ?_ ?_⟩
   ·have:(s.put k.data.toList v.data.toList).starts=s.starts++[s.b.length]:=by unfold BB.put;simp[hm]
    rw[this];exact hWt.out
   ·exact own_blk_ne hWt.out hBt (fun e=>h.tw e.symm)
   ·exact own_types hOt.out hWt.out (by decide)
   ·rw[bs_of]
   ·first | rfl | (simp;done) | trace_state
 ·have hm':¬(s.count:Int) % 4=0:=by omega
  have h0:0<s.count:=by
   rcases Nat.eq_zero_or_pos s.count with h0 | h0
   ·rw[h0] at hm;simp at hm
   ·exact h0
  have h0':(0:Int)<s.count:=by omega
  have hl:lessL s.last k.data.toList=true:=by
   rcases hq:lessL s.last k.data.toList with _ | _
   ·exact absurd ⟨h0,hq⟩ hor
   ·rfl
  rw[hl] at hle;clear hl hor;have hsh:=shared_any (bs s.last) k w (by rw[bs_size];exact hla);rw[bs_data] at hsh
  have hL':s.lead k.data.toList=sharedL s.last k.data.toList:=by unfold BB.lead;rw[if_neg hm]
  have hnk:=(sharedL_le s.last k.data.toList).2;rw[hlk.out] at hnk
  generalize sharedL s.last k.data.toList=n at *
  replace hsh:=Lib.hid hsh;replace hL':=Lib.hid hL'
  go_enter Tryz.func105,Tryz.ntmps105
  go_wp2_with fail
  refine hsh.out.mono ?_;rintro e W1 ⟨rfl,hb1⟩;go_wp2_with fail
  obtain⟨cs1,hcs1⟩:∃c,c=cs.setIfInBounds (off+1) (.slice As s.starts.length cas):=⟨_,rfl⟩;have hcs2:cs1=cs:=hcs1.trans (set_self_get h.e1);have h1:=h.below hb1;have hBt:=h1.blk;rw[←hcs2] at hBt;have hOt:=Lib.hid h1.ob;have hWt:=Lib.hid h1.os;have hKt:=Lib.hid (KeptBut.of_below hb1 (S:=BS g (.slice Ab s.b.length cb) (.slice As s.starts.length cas)))
  have q0:cs1[off]? = some (.slice Ab s.b.length cb):=by rw[hcs2];exact h.e0
  have q2:cs1[off+2]? = some (.int .i64 s.count):=by rw[hcs2];exact h.e2
  have q3:cs1[off+3]? = some (.string (bs s.last)):=by rw[hcs2];exact h.e3
  have hn:=hnk;have hL:=hL';replace hcs2:=Lib.hid hcs2;replace hb1:=Lib.hid hb1
  have hen:Hid ((bs (varL1 n)++bs (textL [k.data.toList.drop n,v.data.toList])).data.toList=s.enc k.data.toList v.data.toList):=by
   unfold BB.enc;rw[hL'.out,bs_append,bs_data];exact rfl
  have hdr:Hid ((k.extract n k.size).data.toList=k.data.toList.drop n):=by
   have:(k.extract n k.size).data.toList=k.data.toList.drop n:=by rw[ext_bs,bs_data,List.take_of_length_le];simp[dlen]
   exact this
  have hgb:=Lib.hid h.gb
  have hz11:(k.extract n k.size).size≤1099511627776:=by simp;omega
  have hzv:v.size≤1099511627776:=by omega
  have hBW:B≤W1.heap.size:=by have:=hBt.lt;have:=h.hB;omega
  have hep:Hid (0<(s.enc k.data.toList v.data.toList).length):=s.enc_pos _ _
  have hzz:s.b.length+(bs (varL1 n)++bs (textL [k.data.toList.drop n,v.data.toList])).size≤70368744177664:=by
   have h3:=s.enc_len k.data.toList v.data.toList;rw[←hen.out,dlen,dlen,dlen] at h3;omega
  replace hn:=Lib.hid hn;replace hL:=Lib.hid hL
  have hcat:Hid (¬9223372036854775807<(bs (varL1 n)).size+(bs (textL [k.data.toList.drop n,v.data.toList])).size):=by
   have:¬9223372036854775807<(bs (varL1 n)).size+(bs (textL [k.data.toList.drop n,v.data.toList])).size:=by rw[ByteArray.size_append] at hzz;omega
   exact this
  have hnw:Hid (IntKind.u64.wrap ((n:Nat):Int)=((n:Nat):Int)):=by
   have:IntKind.u64.wrap ((n:Nat):Int)=((n:Nat):Int):=by rw[IntKind.wrap_u64];omega
   exact this
  refine wp_region_task (fun d w'=>JA W1 B g t off cs1 (.slice Ab s.b.length cb) (s.b++s.enc k.data.toList v.data.toList) (d 16) (d 19) w') (tauL [some (.pointer (some ⟨g,off,none⟩)),some (.pointer (some ⟨g,off,none⟩)),some (.pointer (some ⟨g,off,none⟩)),some (.pointer (some ⟨g,off,none⟩)),some (.slice Ab s.b.length cb),some (.int .i64 (n:Nat)),some (.int .u64 (n:Nat)),none,some (.string (bs (varL1 n))),some (.string k),some (.int .i64 (n:Nat)),some (.string (k.extract n k.size)),some (.string v),none,some (.string (bs (textL [k.data.toList.drop n,v.data.toList]))),some (.string (bs (varL1 n)++bs (textL [k.data.toList.drop n,v.data.toList]))),none,some (.pointer (some ⟨g,off,none⟩)),some (.pointer (some ⟨g,off,none⟩)),none] (SA W1 B n (k.extract n k.size) v (.slice Ab s.b.length cb) (s.b++s.enc k.data.toList v.data.toList))) (usL (List.replicate 19 undef)) ?m1c ?m2c ?m3c ?m4c (Below.refl _ _).drew ?m5c ?m6c
  case m1c=>kernel_rfl
  case m2c=>kernel_rfl
  case m3c=>kernel_rfl
  case m4c=>kernel_rfl
  case m5c =>
   refine⟨?o0c,?o1c,?o2c,?o3c,?o4c,?o5c,?o6c,?o7c,?o8c,?o9c,?o10c,?o11c,?o12c,?o13c,?o14c,?o15c,?o16c,?o17c,?o18c,?o19c,trivial⟩
   case o0c =>
    intro d us wx hd hJ hp hu hi;refine .inl ⟨by kernel_rfl,fun K Q hK=>?_⟩;simp only[putAll,Act.put,Nat.reduceAdd] at hK ⊢;go_simp;refine Eq.mp ?_ (hK (.pointer (some ⟨g,off,none⟩)) _ hJ rfl (fun _ _ _ h=>h))
    kernel_rfl
   case o1c =>
    intro d us wx hd hJ hp hu hi;refine .inl ⟨by kernel_rfl,fun K Q hK=>?_⟩;simp only[putAll,Act.put,Nat.reduceAdd] at hK ⊢;go_simp;refine Eq.mp ?_ (hK (.pointer (some ⟨g,off,none⟩)) _ hJ rfl (fun _ _ _ h=>h))
    kernel_rfl
   case o2c =>
    intro d us wx hd hJ hp hu hi;have h1:us 1=_:=(hp 1 (by simp[Region.binds])).2;refine .inl ⟨by kernel_rfl,fun K Q hK=>?_⟩;simp only[putAll,Act.put,Nat.reduceAdd,h1] at hK ⊢;go_simp;refine Eq.mp ?_ (hK (.pointer (some ⟨g,off,none⟩)) _ hJ rfl (fun _ _ _ h=>h))
    kernel_rfl
   case o3c =>
    intro d us wx hd hJ hp hu hi;have h2:us 2=_:=(hp 2 (by simp[Region.binds])).2;refine .inl ⟨by kernel_rfl,fun K Q hK=>?_⟩;simp only[putAll,Act.put,Nat.reduceAdd,h2] at hK ⊢;go_simp;refine Eq.mp ?_ (hK (.pointer (some ⟨g,off,none⟩)) _ hJ rfl (fun _ _ _ h=>h))
    kernel_rfl
   case o4c =>
    intro d us wx hd hJ hp hu hi;have h3:us 3=_:=(hp 3 (by simp[Region.binds])).2;have h16:=(hu 16 (by kernel_rfl)).1;have h19:=(hu 19 (by kernel_rfl)).1;have hBx:=JA.of_ff h16 h19 hJ;have z0:=((hBt.below hBx hBt.lt).cell off).trans q0;refine .inl ⟨by kernel_rfl,fun K Q hK=>?_⟩;simp only[putAll,Act.put,Nat.reduceAdd,h3] at hK ⊢;go_simp;refine Eq.mp ?_ (hK (.slice Ab s.b.length cb) _ hJ rfl (fun _ _ _ h=>h))
    kernel_rfl
   case o5c =>
    intro d us wx hd hJ hp hu hi;refine .inl ⟨by kernel_rfl,fun K Q hK=>?_⟩;simp only[putAll,Act.put,Nat.reduceAdd] at hK ⊢;go_simp;refine Eq.mp ?_ (hK (.int .i64 (n:Nat)) _ hJ rfl (fun _ _ _ h=>h))
    kernel_rfl
   case o6c =>
    intro d us wx hd hJ hp hu hi;have h5:us 5=_:=(hp 5 (by simp[Region.binds])).2;refine .inl ⟨by kernel_rfl,fun K Q hK=>?_⟩;simp only[putAll,Act.put,Nat.reduceAdd,h5] at hK ⊢;go_simp;rw[hnw.out];refine Eq.mp ?_ (hK (.int .u64 (n:Nat)) _ hJ rfl (fun _ _ _ h=>h))
    kernel_rfl
   case o7c =>
    intro d us wx hd hJ hp hu hi;have h6:us 6=_:=(hp 6 (by simp[Region.binds])).2;have h16:=(hu 16 (by kernel_rfl)).1;have h19:=(hu 19 (by kernel_rfl)).1;have hBx:=JA.of_ff h16 h19 hJ;refine .inl ⟨by kernel_rfl,fun K Q hK=>?_⟩;simp only[putAll,Act.put,Nat.reduceAdd,h6] at hK ⊢;go_simp;refine Eq.mp ?_ (hK (.slice (some ⟨wx.heap.size,0,none⟩) 1 1) (wx.alloc (.cells #[.int .u64 (n:Nat)] 34)) (JA.ff h16 h19 (hBx.alloc hBx.size _)) ⟨wx.heap.size,rfl,hBx.size,(by rw[World.size_alloc];omega),(by simp[go_sem])⟩ (fun k u _ h=>tauL_mono (SA.mono ((Below.refl _ _).alloc (Nat.le_refl _) _)) k u h))
    kernel_rfl
   case o8c =>
    intro d us wx hd hJ hp hu hi;have hs7:SA W1 B n (k.extract n k.size) v (.slice Ab s.b.length cb) (s.b++s.enc k.data.toList v.data.toList) 7 (us 7) wx:=(hp 7 (by simp[Region.binds])).2;obtain⟨b7,h7,hb7,hl7,hc7⟩:=hs7;have h16:=(hu 16 (by kernel_rfl)).1;have h19:=(hu 19 (by kernel_rfl)).1;have hBx:=JA.of_ff h16 h19 hJ;refine .inl ⟨by kernel_rfl,fun K Q hK=>?_⟩;simp only[putAll,Act.put,Nat.reduceAdd,h7] at hK ⊢;go_simp
    go_at_call 145
    refine (Var_one b7 _ wx hl7 hc7 (by omega) (by omega)).mono ?_;rintro e w9 ⟨rfl,hb9⟩;refine Eq.mp ?_ (hK (.string (bs (varL1 n))) w9 (JA.ff h16 h19 (hBx.trans (hb9.mono hBx.size))) rfl (fun k u _ h=>tauL_mono (SA.mono hb9) k u h));rw[Int.toNat_natCast]
    kernel_rfl
   case o9c =>
    intro d us wx hd hJ hp hu hi;refine .inl ⟨by kernel_rfl,fun K Q hK=>?_⟩;simp only[putAll,Act.put,Nat.reduceAdd] at hK ⊢;go_simp;refine Eq.mp ?_ (hK (.string k) _ hJ rfl (fun _ _ _ h=>h))
    kernel_rfl
   case o10c =>
    intro d us wx hd hJ hp hu hi;refine .inl ⟨by kernel_rfl,fun K Q hK=>?_⟩;simp only[putAll,Act.put,Nat.reduceAdd] at hK ⊢;go_simp;refine Eq.mp ?_ (hK (.int .i64 (n:Nat)) _ hJ rfl (fun _ _ _ h=>h))
    kernel_rfl
   case o11c =>
    intro d us wx hd hJ hp hu hi;have h9:us 9=_:=(hp 9 (by simp[Region.binds])).2;have h10:us 10=_:=(hp 10 (by simp[Region.binds])).2;refine .inl ⟨by kernel_rfl,fun K Q hK=>?_⟩;simp only[putAll,Act.put,Nat.reduceAdd,h9,h10] at hK ⊢;go_simp;refine Eq.mp ?_ (hK (.string (k.extract n k.size)) _ hJ rfl (fun _ _ _ h=>h))
    kernel_rfl
   case o12c =>
    intro d us wx hd hJ hp hu hi;refine .inl ⟨by kernel_rfl,fun K Q hK=>?_⟩;simp only[putAll,Act.put,Nat.reduceAdd] at hK ⊢;go_simp;refine Eq.mp ?_ (hK (.string v) _ hJ rfl (fun _ _ _ h=>h))
    kernel_rfl
   case o13c =>
    intro d us wx hd hJ hp hu hi;have h11:us 11=_:=(hp 11 (by simp[Region.binds])).2;have h12:us 12=_:=(hp 12 (by simp[Region.binds])).2;have h16:=(hu 16 (by kernel_rfl)).1;have h19:=(hu 19 (by kernel_rfl)).1;have hBx:=JA.of_ff h16 h19 hJ;refine .inl ⟨by kernel_rfl,fun K Q hK=>?_⟩;simp only[putAll,Act.put,Nat.reduceAdd,h11,h12] at hK ⊢;go_simp;refine Eq.mp ?_ (hK (.slice (some ⟨wx.heap.size,0,none⟩) 2 2) (wx.alloc (.cells #[.string (k.extract n k.size),.string v] 9)) (JA.ff h16 h19 (hBx.alloc hBx.size _)) ⟨wx.heap.size,rfl,hBx.size,(by rw[World.size_alloc];omega),((Blk.new _ _ _).cell 0),((Blk.new _ _ _).cell 1)⟩ (fun k u _ h=>tauL_mono (SA.mono ((Below.refl _ _).alloc (Nat.le_refl _) _)) k u h))
    kernel_rfl
   case o14c =>
    intro d us wx hd hJ hp hu hi;have hs13:SA W1 B n (k.extract n k.size) v (.slice Ab s.b.length cb) (s.b++s.enc k.data.toList v.data.toList) 13 (us 13) wx:=(hp 13 (by simp[Region.binds])).2;obtain⟨b13,h13,hb13,hl13,hc13,hd13⟩:=hs13;have h16:=(hu 16 (by kernel_rfl)).1;have h19:=(hu 19 (by kernel_rfl)).1;have hBx:=JA.of_ff h16 h19 hJ;refine .inl ⟨by kernel_rfl,fun K Q hK=>?_⟩;simp only[putAll,Act.put,Nat.reduceAdd,h13] at hK ⊢;go_simp
    go_at_call 146
    refine (Text_two b13 _ _ wx hl13 hc13 hd13 hz11 hzv).mono ?_;rintro e w9 ⟨rfl,hb9⟩;refine Eq.mp ?_ (hK (.string (bs (textL [k.data.toList.drop n,v.data.toList]))) w9 (JA.ff h16 h19 (hBx.trans (hb9.mono hBx.size))) rfl (fun k u _ h=>tauL_mono (SA.mono hb9) k u h));rw[hdr.out]
    kernel_rfl
   case o15c =>
    intro d us wx hd hJ hp hu hi;have h8:us 8=_:=(hp 8 (by simp[Region.binds])).2;have h14:us 14=_:=(hp 14 (by simp[Region.binds])).2;refine .inl ⟨by kernel_rfl,fun K Q hK=>?_⟩;simp only[putAll,Act.put,Nat.reduceAdd,h8,h14] at hK ⊢;go_simp;rw[if_neg hcat.out];go_simp;refine Eq.mp ?_ (hK (.string (bs (varL1 n)++bs (textL [k.data.toList.drop n,v.data.toList]))) _ hJ rfl (fun _ _ _ h=>h))
    kernel_rfl
   case o16c =>
    intro d us wx hd hJ hp hu hi;have h4:us 4=_:=(hp 4 (by simp[Region.binds])).2;have h15:us 15=_:=(hp 15 (by simp[Region.binds])).2;have h16:=hd;have h19:=(hu 19 (by kernel_rfl)).1;have hBx:=JA.of_ff h16 h19 hJ;have hOx:OwnB wx B _ _:=own_block hOt.out (fun k hk=>hBx.block k (own_lt hOt.out k hk).2);refine .inl ⟨by kernel_rfl,fun K Q hK=>?_⟩;simp only[putAll,Act.put,Nat.reduceAdd,h4,h15] at hK ⊢;refine wp_append_str (.tmp 65) (.tmp 76) rfl B _ s.b (by kernel_rfl) hOx (bs (varL1 n)++bs (textL [k.data.toList.drop n,v.data.toList])) (by kernel_rfl) hzz (by have:=hBx.size;omega) ?_;intro v9 w9 ho9 hg9 hat9;rw[hen.out] at ho9
    have hk9:KeptBut wx w9 (fun k=>(Value.slice Ab s.b.length cb).ownBlock=some k):=(KeptBut.refl _ _).then_grown hg9 (fun k e=>e)
    refine Eq.mp ?_ (hK v9 w9 (JA.tf h19 ((KeptBut.of_below hBx).trans hk9 (fun k _ e=>e))) ⟨ho9,Moved.of_at (fun k hk=>hat9 k hk) hBx.size ho9 (fun e=>absurd e (own_some ho9 (by rw[List.length_append];have:=hep.out;omega)))⟩ (fun k u hk h=>tauL_mono2 (SA.mono2 hk9 (fun k e=>(own_lt hOt.out k e).2)) k u hk h))
    kernel_rfl
   case o17c =>
    intro d us wx hd hJ hp hu hi;have h0:us 0=_:=(hp 0 (by simp[Region.binds])).2;refine .inl ⟨by kernel_rfl,fun K Q hK=>?_⟩;simp only[putAll,Act.put,Nat.reduceAdd,h0] at hK ⊢;go_simp;refine Eq.mp ?_ (hK (.pointer (some ⟨g,off,none⟩)) _ hJ rfl (fun _ _ _ h=>h))
    kernel_rfl
   case o18c =>
    intro d us wx hd hJ hp hu hi;have h17:us 17=_:=(hp 17 (by simp[Region.binds])).2;refine .inl ⟨by kernel_rfl,fun K Q hK=>?_⟩;simp only[putAll,Act.put,Nat.reduceAdd,h17] at hK ⊢;go_simp;refine Eq.mp ?_ (hK (.pointer (some ⟨g,off,none⟩)) _ hJ rfl (fun _ _ _ h=>h))
    kernel_rfl
   case o19c =>
    intro d us wx hd hJ hp hu hi;have h18:us 18=_:=(hp 18 (by simp[Region.binds])).2;have hs16:SA W1 B n (k.extract n k.size) v (.slice Ab s.b.length cb) (s.b++s.enc k.data.toList v.data.toList) 16 (us 16) wx:=(hp 16 (by simp[Region.binds])).2;obtain⟨A9,c9,h16v⟩:=hs16.1.form;rw[List.length_append] at h16v;rw[h16v] at hs16;have hd16:=(hp 16 (by simp[Region.binds])).1;have hkx:KeptBut W1 wx _:=JA.of_tf hd (by have:=hJ;rw[hd16] at this;exact this);have hBg:=hBt.keptB hkx hgb.out;have z0:=(hBg.cell off).trans q0;have z1:=hBg.frozen off;refine .inl ⟨by kernel_rfl,fun K Q hK=>?_⟩;simp only[putAll,Act.put,Nat.reduceAdd,h18,h16v] at hK ⊢;go_simp
    refine Eq.mp ?_ (hK (undef) (wx.setCell ⟨g,off,none⟩ (.slice A9 (s.b.length+(s.enc k.data.toList v.data.toList).length) c9)) (JA.tt hd16 ⟨_,own_set hs16.1 hBg h.tb,hs16.2,(hkx.mono (fun k _ e=>.inr e)).then_set (.inl rfl),hBg.set_ off _⟩) trivial (fun k u _ h=>tauL_mono (SA.mono3 hBt.lt hBg htb) k u h))
    kernel_rfl
  intro d us wx hJ hall;have hd16:=(hall 16 (by simp)).1;have hd19:=(hall 19 (by simp)).1;obtain⟨v9,ho9,hm9,hk9,hb9⟩:=JA.of_tt hd16 hd19 hJ;simp only[putAll,Act.put,Nat.reduceAdd];have x2:wx.cell? ⟨g,off+2,none⟩=some (.int .i64 s.count):=(hb9.cell (off+2)).trans (by rw[Array.getElem?_setIfInBounds_ne (by omega)];exact q2);have x3:wx.cell? ⟨g,off+3,none⟩=some (.string (bs s.last)):=(hb9.cell (off+3)).trans (by rw[Array.getElem?_setIfInBounds_ne (by omega)];exact q3);have g2:=hb9.frozen (off+2);have g3:=hb9.frozen (off+3);clear hJ hall;go_wp2_with fail
  go_ret
  refine⟨rfl,h.put_end hcs1 hKt.out ?_ (Moved.refl _ _) ?_ ho9 hm9 hk9 hb9 ?_ ?_ ?_⟩
  ·have:(s.put k.data.toList v.data.toList).starts=s.starts:=by unfold BB.put;simp[hm]
   rw[this];exact hWt.out
  ·exact own_blk_ne hWt.out hBt (fun e=>h.tw e.symm)
  ·exact own_types hOt.out hWt.out (by decide)
  ·rw[bs_of]
  ·first | rfl | (simp;done) | trace_state
end Go.Proofs.YtlpojfgeocpkeaaGreatDoor
