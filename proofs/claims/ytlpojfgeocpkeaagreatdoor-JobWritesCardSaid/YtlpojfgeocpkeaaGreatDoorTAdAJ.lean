/- table.Builder: Add of an entry that may come, case A (printed by genadd.py). -/
import Derived.Test.YtlpojfgeocpkeaaGreatDoorX19
namespace Go.Proofs.YtlpojfgeocpkeaaGreatDoor
open Go.RowKit
set_option linter.unusedVariables false
set_option linter.unusedSimpArgs false
set_option maxRecDepth 100000 in
set_option maxHeartbeats 8000000 in
theorem TAdd_A {w:World}{F:Nat→Prop}{g:Nat}{s:TB}(h:TBIn w F g s)(hG:Gl w)(e:Ent)(he:s.err e=0)(nb1:s.data.b.length≤524288)(nb2:s.data.starts.length≤524288)(nb3:∀n∈s.data.starts,n≤524288)(nb4:s.data.count≤524288)(nb5:s.data.last.length≤1048576)
  (hi1:s.index.b.length≤274877906944) (hi2:s.index.starts.length≤1073741824) (hi3:s.index.count≤1073741824) (hi4:s.index.last.length≤1048576) (hat:s.at_≤4398046511104) (hpl:s.parts.length≤1073741824) (hkl:s.keys.length≤1073741824) (htc:s.t.count≤1073741824)
  (hc:s.t.count=0) (hl:s.t.last≠e.key) :
  Calls Tryz.prog 72 #[.pointer (some ⟨g,0,none⟩),.agg (entC e)] w fun r w'=>r=.returned (.tuple #[.string (bs (s.add e).2),.int .i64 0])∧TBIn w' (Fx F w w') g (s.add e).1∧KeptBut w w' F:=by
 obtain⟨vb1,vs1,vb2,vs2,vk,vp,hT,hF⟩:=h;obtain⟨i0,hi0,hz0,hz1',hz2'⟩:=info_parts string_info;have hE:=he;unfold TB.err at hE
 have hdn:s.done=false:=by
  rcases hq:s.done with _ | _
  ·rfl
  ·rw[hq] at hE;cases hE
 rw[hdn] at hE;simp only[Bool.false_eq_true,if_false] at hE
 have hlen:¬(64<e.key.length∨512<e.value.length):=by
  intro hh;rw[if_pos hh] at hE;cases hE
 rw[if_neg hlen] at hE
 have hbd:s.bad e=false:=by
  rcases hq:s.bad e with _ | _
  ·rfl
  ·rw[hq] at hE;cases hE
 have hsq:e.seq<18446744073709551616:=by
  unfold TB.bad at hbd;simp only[Bool.or_eq_false_iff,decide_eq_false_iff_not] at hbd;omega
 clear hE;have hA:Below w.heap.size w (w.alloc (.cells (entC e) 46)):=(Below.refl _ _).alloc (Nat.le_refl _) _;have hE0:Blk (w.alloc (.cells (entC e) 46)) w.heap.size 46 (entC e):=Blk.new _ _ _;have hbad:=bad_any (hT.below hA) (hG.below hA hG.lt) e (by omega) hsq;rw[hbd] at hbad;have hlt:=hT.blk.lt
 have hgne:w.heap.size≠g:=by omega
 have c20:w.cell? ⟨g,20,none⟩=some (.bool false):=(hT.blk.cell 20).trans (by simp[tbC,hdn])
 have hlk:¬((64:Int)<((bs e.key).size:Nat)):=by rw[bs_size];omega
 have hlv:¬((512:Int)<((bs e.value).size:Nat)):=by rw[bs_size];omega
 have h1k:=internalL_len e.key e.seq;replace hbad:=Lib.hid hbad;replace hbd:=Lib.hid hbd;replace hdn:=Lib.hid hdn;obtain⟨gg,hgg⟩:∃b,e.gone=b:=⟨_,rfl⟩
 obtain⟨mk,hmk⟩:∃m:ByteArray,(if gg then (⟨#[1]⟩:ByteArray) else ⟨#[0]⟩)=m:=⟨_,rfl⟩
 have hmks:mk.size≤1:=by rw[←hmk];cases gg<;>decide
 have hmd:(mk++bs e.value).data.toList=rowV e:=by unfold rowV;rw[hgg,←hmk];cases gg<;>simp[bs]
 have hadd:=fun (w:World) (hT:TBAt w 0 g { s with last:=rowK e } vb1 vs1 vb2 vs2 vk vp)=>BAdd_all hT.data (bs (rowK e)) (mk++bs e.value) (Nat.zero_le _) (by show s.data.b.length≤_;omega) (by show s.data.starts.length≤_;omega) (by show s.data.count≤_;omega) (by show s.data.last.length≤_;omega);rw[bs_data,hmd] at hadd
 have hk1:mk.size+(bs e.value).size≤9223372036854775807:=by rw[bs_size];omega
 replace hadd:=Lib.hid hadd;replace hmd:=Lib.hid hmd
 have hent:entC e=#[.string (bs e.key),.string (bs e.value),.int .u64 (e.seq:Nat),.bool gg]:=by unfold entC;rw[hgg]
 rw[hent] at hbad hE0 hA;rw[hent];replace hent:=Lib.hid hent;replace hgg:=Lib.hid hgg;replace hmk:=Lib.hid hmk
 go_enter Tryz.func72,Tryz.ntmps72
 go_wp2_with fail
 refine hbad.out.mono ?_;rintro r w1 ⟨rfl,hb1⟩;have hbw1:=hA.trans (hb1.mono hA.size);have hz1:=hbw1.size;have hE1:=hE0.below hb1 hE0.lt;have x0:w1.cell? ⟨w.heap.size,0,none⟩=some (.string (bs e.key)):=hE1.cell 0;have x1:w1.cell? ⟨w.heap.size,1,none⟩=some (.string (bs e.value)):=hE1.cell 1;have x2:w1.cell? ⟨w.heap.size,2,none⟩=some (.int .u64 (e.seq:Nat)):=hE1.cell 2;have x3:w1.cell? ⟨w.heap.size,3,none⟩=some (.bool gg):=hE1.cell 3;have gl1:=hE1.lt;have hint:=Internal_any (bs e.key) e.seq w1 (hG.below hbw1 hG.lt) (by rw[bs_size];omega) (by omega);rw[bs_data,show internalL e.key e.seq=rowK e from rfl] at hint;replace hint:=Lib.hid hint
 go_upto_if 32 with fail
 go_cut [6] (fun mv wx=>mv=.string mk∧w1=wx)
 case first =>
  cases gg with
  | true =>
   go_wp2
   all_goals go_meet
   all_goals exact⟨by rw[←hmk.out];rfl,rfl⟩
  | false =>
   go_wp2
   all_goals go_meet
   all_goals exact⟨by rw[←hmk.out];rfl,rfl⟩
 obtain⟨rfl,rfl⟩:=hcut;go_wp2_with fail
 refine hint.out.mono ?_;rintro r w2 ⟨rfl,hb2⟩;have hbw2:=hbw1.trans (hb2.mono hz1);have hz2:=hb2.size;have hT2:=hT.below hbw2;have hE2:=hE1.below hb2 hE1.lt;clear x0 x1 x2 x3;obtain⟨v16,hv16⟩:∃v,w2.cell? ⟨g,16,none⟩=some v:=⟨_,hT2.blk.cell 16⟩;have f16:=hT2.blk.frozen 16;have l16:=hT2.blk.lt
 have hT3:TBAt (w2.setCell ⟨g,16,none⟩ (.string (bs (rowK e)))) 0 g { s with last:=rowK e } vb1 vs1 vb2 vs2 vk vp:=hT2.reblk ((KeptBut.refl _ _).then_set rfl) (hT2.blk.set_ 16 (.string (bs (rowK e)))) rfl rfl rfl rfl
 have hE3:Blk (w2.setCell ⟨g,16,none⟩ (.string (bs (rowK e)))) w.heap.size 46 #[.string (bs e.key),.string (bs e.value),.int .u64 (e.seq:Nat),.bool gg]:=hE2.far (p:=⟨g,16,none⟩) (by show w.heap.size≠g;exact hgne) _
 have hk3:KeptBut w (w2.setCell ⟨g,16,none⟩ (.string (bs (rowK e)))) F:=((KeptBut.of_below hbw2).then_set (hF g (.inl rfl)))
 replace hT3:=Lib.hid hT3;replace hE3:=Lib.hid hE3;replace hk3:=Lib.hid hk3;clear hT2 hE2 hE1;go_wp2_with fail
 generalize w2.setCell ⟨g,16,none⟩ (.string (bs (rowK e)))=w3 at *
 have y16:w3.cell? ⟨g,16,none⟩=some (.string (bs (rowK e))):=hT3.out.blk.cell 16;have y1:w3.cell? ⟨w.heap.size,1,none⟩=some (.string (bs e.value)):=hE3.out.cell 1;have yl:=hT3.out.blk.lt;have yg:=hE3.out.lt;clear hv16 f16 l16;have hxc:=@Ext.cell;have hxf:=@Ext.frozen;refine wp_hide (fun Q0 hQ0=>?_);refine wp_region_line (fun w'=>∃x:Ext _,w'=x.w) [some false,some false,some false,some false,some false,some false,some false,some false,some false,some false,some false,none] 0 (by kernel_rfl) (by kernel_rfl) ⟨⟨_,(Below.refl _ _).drew⟩,rfl⟩ ?_;simp only[earlyL,tailL]
 repeat (first | ((with_reducible refine wpMix_p ?_);go_big_quiet_step (fail);refine wpQuiet_nil ?_) | ((with_reducible refine wpMix_e ?_);go_big_quiet_step ((first | fail));refine wpQuiet_nil ?_))
 refine wpMix_nil ?_;clear hxc hxf;intro wx hwx;obtain⟨x,hx⟩:=hwx;have hb:=x.below;rw[←hx] at hb;clear hx x;have hb13:=hb;clear hb;have hTx:=hT3.out.below hb13;have hEx:=hE3.out.below hb13 hE3.out.lt;have hcall:=Lib.hid (hadd.out wx hTx);clear y16 y1 yl yg;refine wpTail_step ?_;intro Q1 hQ1;go_wp2_with fail
 refine hcall.out.mono ?_;rintro r w4 ⟨rfl,x,y,hD4,hk4,hx4,hy4⟩;go_wp2_with fail
 refine hQ1 _ _ rfl (fun h=>absurd h (by decide)) ?_;clear hQ1 Q1;refine wpTail_nil ?_;refine hQ0 _ _ ?_;clear hQ0 Q0;have hT4:TBAt w4 0 g { s with last:=rowK e,data:=s.data.add (rowK e) (rowV e) } x y vb2 vs2 vk vp:=hTx.of_data hD4 hk4 hx4 hy4
 have hE4:Blk w4 w.heap.size 46 #[.string (bs e.key),.string (bs e.value),.int .u64 (e.seq:Nat),.bool gg]:=hEx.keptB hk4 (fun q=>by
  rcases q with q | q | q
  ·exact hgne q
  ·exact own_blk_ne hTx.o1 hEx (by decide) q
  ·exact own_blk_ne hTx.p1 hEx (by decide) q)
 have hF4:KeptBut w w4 F:=(hk3.out.then_below hb13).trans hk4 (fun k _ q=>hF k (q.elim .inl (fun q=>q.elim (fun q=>.inr (.inl q)) (fun q=>.inr (.inr (.inl q))))))
 have hz3:=hk3.out.size;have hzb:=hb13.size;have hz4:=hk4.size
 have hin4:∀k,TS g x y vb2 vs2 vk vp k→Fx F w w4 k:=by
  intro k q;rcases q with q | q | q | q | q | q | q
  ·exact .inl (hF k (.inl q))
  ·rcases hx4 k q with q1 | q1
   ·exact .inl (hF k (.inr (.inl q1)))
   ·exact .inr (by omega)
  ·rcases hy4 k q with q1 | q1
   ·exact .inl (hF k (.inr (.inr (.inl q1))))
   ·exact .inr (by omega)
  ·exact .inl (hF k (.inr (.inr (.inr (.inl q)))))
  ·exact .inl (hF k (.inr (.inr (.inr (.inr (.inl q))))))
  ·exact .inl (hF k (.inr (.inr (.inr (.inr (.inr (.inl q)))))))
  ·exact .inl (hF k (.inr (.inr (.inr (.inr (.inr (.inr q)))))))
 replace hin4:=Lib.hid hin4;replace hD4:=Lib.hid hD4;replace hF4:=Lib.hid hF4;clear hcall hadd hTx hEx hT3 hE3;have x0:w4.cell? ⟨w.heap.size,0,none⟩=some (.string (bs e.key)):=hE4.cell 0;have x2:w4.cell? ⟨w.heap.size,2,none⟩=some (.int .u64 (e.seq:Nat)):=hE4.cell 2;have hgel:w.heap.size<w4.heap.size:=hE4.lt;have y2:w4.cell? ⟨g,2,none⟩=some (.int .i64 (s.t.count:Nat)):=hT4.blk.cell 2;have yl:=hT4.blk.lt;obtain⟨s4,hs4⟩:∃s4,s4=({ s with last:=rowK e,data:=s.data.add (rowK e) (rowV e) }:TB):=⟨_,rfl⟩;rw[←hs4] at hT4;replace hs4:=Lib.hid hs4
 have hcI:((s.t.count:Nat):Int)=0:=by omega
 go_wp2_with fail
 refine wp_region_task (fun d w'=>JT w4 g (st16 s4 e x y vb2 vs2 vk vp (d 11) (d 14) (d 17)) w') (tauL [some (.pointer (some ⟨g,0,none⟩)),some (.pointer (some ⟨g,0,none⟩)),some (.pointer (some ⟨g,0,none⟩)),some (.pointer (some ⟨w.heap.size,0,none⟩)),some (.string (bs e.key)),some (.pointer (some ⟨w.heap.size,2,none⟩)),some (.int .u64 (e.seq:Nat)),some (.pointer (some ⟨w.heap.size,2,none⟩)),some (.int .u64 (e.seq:Nat)),some (.pointer (some ⟨g,0,none⟩)),some (.pointer (some ⟨g,4,none⟩)),none,some (.pointer (some ⟨g,0,none⟩)),some (.pointer (some ⟨g,6,none⟩)),none,some (.pointer (some ⟨g,0,none⟩)),some (.pointer (some ⟨g,7,none⟩)),none] tauN) (usT [u61,u62,u63,u64,u65,u66,u67,u68,u69,u70,u71,undef,u72,u73,undef,u74,u75,undef]) ?m1a ?m2a ?m3a ?m4a ⟨hT4.blk,(KeptBut.refl _ _).drew⟩ ?m5a ?m6a
 case m1a=>kernel_rfl
 case m2a=>kernel_rfl
 case m3a=>kernel_rfl
 case m4a=>kernel_rfl
 case m5a =>
  refine⟨?o0a,?o1a,?o2a,?o3a,?o4a,?o5a,?o6a,?o7a,?o8a,?o9a,?o10a,?o11a,?o12a,?o13a,?o14a,?o15a,?o16a,?o17a,trivial⟩
  case o0a =>
   intro d us wx hd hJ hp hu hi;refine .inl ⟨by kernel_rfl,fun K Q hK=>?_⟩;simp only[putAll,Act.put,Nat.reduceAdd] at hK ⊢;go_simp;refine Eq.mp ?_ (hK (.pointer (some ⟨g,0,none⟩)) _ hJ rfl (fun _ _ _ h=>h))
   kernel_rfl
  case o1a =>
   intro d us wx hd hJ hp hu hi;refine .inl ⟨by kernel_rfl,fun K Q hK=>?_⟩;simp only[putAll,Act.put,Nat.reduceAdd] at hK ⊢;go_simp;refine Eq.mp ?_ (hK (.pointer (some ⟨g,0,none⟩)) _ hJ rfl (fun _ _ _ h=>h))
   kernel_rfl
  case o2a =>
   intro d us wx hd hJ hp hu hi;refine .inl ⟨by kernel_rfl,fun K Q hK=>?_⟩;simp only[putAll,Act.put,Nat.reduceAdd] at hK ⊢;go_simp;refine Eq.mp ?_ (hK (.pointer (some ⟨g,0,none⟩)) _ hJ rfl (fun _ _ _ h=>h))
   kernel_rfl
  case o3a =>
   intro d us wx hd hJ hp hu hi;refine .inl ⟨by kernel_rfl,fun K Q hK=>?_⟩;simp only[putAll,Act.put,Nat.reduceAdd] at hK ⊢;go_simp;refine Eq.mp ?_ (hK (.pointer (some ⟨w.heap.size,0,none⟩)) _ hJ rfl (fun _ _ _ h=>h))
   kernel_rfl
  case o4a =>
   intro d us wx hd hJ hp hu hi;have h3:us 3=_:=(hp 3 (by simp[Region.binds])).2;have z0:wx.cell? ⟨w.heap.size,0,none⟩=some (.string (bs e.key)):=(hJ.2.cell ⟨w.heap.size,0,none⟩ hgel hgne).trans x0;refine .inl ⟨by kernel_rfl,fun K Q hK=>?_⟩;simp only[putAll,Act.put,Nat.reduceAdd,h3] at hK ⊢;go_simp;refine Eq.mp ?_ (hK (.string (bs e.key)) _ hJ rfl (fun _ _ _ h=>h))
   kernel_rfl
  case o5a =>
   intro d us wx hd hJ hp hu hi;refine .inl ⟨by kernel_rfl,fun K Q hK=>?_⟩;simp only[putAll,Act.put,Nat.reduceAdd] at hK ⊢;go_simp;refine Eq.mp ?_ (hK (.pointer (some ⟨w.heap.size,2,none⟩)) _ hJ rfl (fun _ _ _ h=>h))
   kernel_rfl
  case o6a =>
   intro d us wx hd hJ hp hu hi;have h5:us 5=_:=(hp 5 (by simp[Region.binds])).2;have z0:wx.cell? ⟨w.heap.size,2,none⟩=some (.int .u64 (e.seq:Nat)):=(hJ.2.cell ⟨w.heap.size,2,none⟩ hgel hgne).trans x2;refine .inl ⟨by kernel_rfl,fun K Q hK=>?_⟩;simp only[putAll,Act.put,Nat.reduceAdd,h5] at hK ⊢;go_simp;refine Eq.mp ?_ (hK (.int .u64 (e.seq:Nat)) _ hJ rfl (fun _ _ _ h=>h))
   kernel_rfl
  case o7a =>
   intro d us wx hd hJ hp hu hi;refine .inl ⟨by kernel_rfl,fun K Q hK=>?_⟩;simp only[putAll,Act.put,Nat.reduceAdd] at hK ⊢;go_simp;refine Eq.mp ?_ (hK (.pointer (some ⟨w.heap.size,2,none⟩)) _ hJ rfl (fun _ _ _ h=>h))
   kernel_rfl
  case o8a =>
   intro d us wx hd hJ hp hu hi;have h7:us 7=_:=(hp 7 (by simp[Region.binds])).2;have z0:wx.cell? ⟨w.heap.size,2,none⟩=some (.int .u64 (e.seq:Nat)):=(hJ.2.cell ⟨w.heap.size,2,none⟩ hgel hgne).trans x2;refine .inl ⟨by kernel_rfl,fun K Q hK=>?_⟩;simp only[putAll,Act.put,Nat.reduceAdd,h7] at hK ⊢;go_simp;refine Eq.mp ?_ (hK (.int .u64 (e.seq:Nat)) _ hJ rfl (fun _ _ _ h=>h))
   kernel_rfl
  case o9a =>
   intro d us wx hd hJ hp hu hi;have h0:us 0=_:=(hp 0 (by simp[Region.binds])).2;refine .inl ⟨by kernel_rfl,fun K Q hK=>?_⟩;simp only[putAll,Act.put,Nat.reduceAdd,h0] at hK ⊢;go_simp;refine Eq.mp ?_ (hK (.pointer (some ⟨g,0,none⟩)) _ hJ rfl (fun _ _ _ h=>h))
   kernel_rfl
  case o10a =>
   intro d us wx hd hJ hp hu hi;have h9:us 9=_:=(hp 9 (by simp[Region.binds])).2;refine .inl ⟨by kernel_rfl,fun K Q hK=>?_⟩;simp only[putAll,Act.put,Nat.reduceAdd,h9] at hK ⊢;go_simp;refine Eq.mp ?_ (hK (.pointer (some ⟨g,4,none⟩)) _ hJ rfl (fun _ _ _ h=>h))
   kernel_rfl
  case o11a =>
   intro d us wx hd hJ hp hu hi;have h10:us 10=_:=(hp 10 (by simp[Region.binds])).2;have h4:us 4=_:=(hp 4 (by simp[Region.binds])).2;obtain⟨v0,hv0⟩:=some_of (i:=4) (cs:=st16 s4 e x y vb2 vs2 vk vp (d 11) (d 14) (d 17)) (by rw[st16_sz];decide);have z0:=(hJ.1.cell 4).trans hv0;have f0:=hJ.1.frozen 4;have l0:=hJ.1.lt;refine .inl ⟨by kernel_rfl,fun K Q hK=>?_⟩;simp only[putAll,Act.put,Nat.reduceAdd,h10,h4] at hK ⊢;go_simp;refine Eq.mp ?_ (hK (undef) (wx.setCell ⟨g,4,none⟩ (.string (bs e.key))) (JT.set hJ st16_4) trivial (fun k u _ h=>tauL_any k u h))
   kernel_rfl
  case o12a =>
   intro d us wx hd hJ hp hu hi;have h1:us 1=_:=(hp 1 (by simp[Region.binds])).2;refine .inl ⟨by kernel_rfl,fun K Q hK=>?_⟩;simp only[putAll,Act.put,Nat.reduceAdd,h1] at hK ⊢;go_simp;refine Eq.mp ?_ (hK (.pointer (some ⟨g,0,none⟩)) _ hJ rfl (fun _ _ _ h=>h))
   kernel_rfl
  case o13a =>
   intro d us wx hd hJ hp hu hi;have h12:us 12=_:=(hp 12 (by simp[Region.binds])).2;refine .inl ⟨by kernel_rfl,fun K Q hK=>?_⟩;simp only[putAll,Act.put,Nat.reduceAdd,h12] at hK ⊢;go_simp;refine Eq.mp ?_ (hK (.pointer (some ⟨g,6,none⟩)) _ hJ rfl (fun _ _ _ h=>h))
   kernel_rfl
  case o14a =>
   intro d us wx hd hJ hp hu hi;have h13:us 13=_:=(hp 13 (by simp[Region.binds])).2;have h6:us 6=_:=(hp 6 (by simp[Region.binds])).2;obtain⟨v0,hv0⟩:=some_of (i:=6) (cs:=st16 s4 e x y vb2 vs2 vk vp (d 11) (d 14) (d 17)) (by rw[st16_sz];decide);have z0:=(hJ.1.cell 6).trans hv0;have f0:=hJ.1.frozen 6;have l0:=hJ.1.lt;refine .inl ⟨by kernel_rfl,fun K Q hK=>?_⟩;simp only[putAll,Act.put,Nat.reduceAdd,h13,h6] at hK ⊢;go_simp;refine Eq.mp ?_ (hK (undef) (wx.setCell ⟨g,6,none⟩ (.int .u64 (e.seq:Nat))) (JT.set hJ st16_6) trivial (fun k u _ h=>tauL_any k u h))
   kernel_rfl
  case o15a =>
   intro d us wx hd hJ hp hu hi;have h2:us 2=_:=(hp 2 (by simp[Region.binds])).2;refine .inl ⟨by kernel_rfl,fun K Q hK=>?_⟩;simp only[putAll,Act.put,Nat.reduceAdd,h2] at hK ⊢;go_simp;refine Eq.mp ?_ (hK (.pointer (some ⟨g,0,none⟩)) _ hJ rfl (fun _ _ _ h=>h))
   kernel_rfl
  case o16a =>
   intro d us wx hd hJ hp hu hi;have h15:us 15=_:=(hp 15 (by simp[Region.binds])).2;refine .inl ⟨by kernel_rfl,fun K Q hK=>?_⟩;simp only[putAll,Act.put,Nat.reduceAdd,h15] at hK ⊢;go_simp;refine Eq.mp ?_ (hK (.pointer (some ⟨g,7,none⟩)) _ hJ rfl (fun _ _ _ h=>h))
   kernel_rfl
  case o17a =>
   intro d us wx hd hJ hp hu hi;have h16:us 16=_:=(hp 16 (by simp[Region.binds])).2;have h8:us 8=_:=(hp 8 (by simp[Region.binds])).2;obtain⟨v0,hv0⟩:=some_of (i:=7) (cs:=st16 s4 e x y vb2 vs2 vk vp (d 11) (d 14) (d 17)) (by rw[st16_sz];decide);have z0:=(hJ.1.cell 7).trans hv0;have f0:=hJ.1.frozen 7;have l0:=hJ.1.lt;refine .inl ⟨by kernel_rfl,fun K Q hK=>?_⟩;simp only[putAll,Act.put,Nat.reduceAdd,h16,h8] at hK ⊢;go_simp;refine Eq.mp ?_ (hK (undef) (wx.setCell ⟨g,7,none⟩ (.int .u64 (e.seq:Nat))) (JT.set hJ st16_7) trivial (fun k u _ h=>tauL_any k u h))
   kernel_rfl
 intro d us w5 hJ hall;have q11:=(hall 11 (by simp)).1;have q14:=(hall 14 (by simp)).1;have q17:=(hall 17 (by simp)).1;rw[q11,q14,q17] at hJ;obtain⟨hB5,hk5⟩:=hJ;simp only[putAll,Act.put,Nat.reduceAdd];clear hall
 obtain⟨s5,hs5⟩:∃s5,s5=({ s4 with t:={ s4.t with first:=e.key,least:=e.seq,most:=e.seq } }:TB):=⟨_,rfl⟩
 have hT5:TBAt w5 0 g s5 x y vb2 vs2 vk vp:=hT4.reblk hk5 (by rw[hs5];exact hB5) (by rw[hs5]) (by rw[hs5]) (by rw[hs5]) (by rw[hs5]);replace hs5:=Lib.hid hs5;have hE5:=hE4.keptB hk5 hgne;have hF5:KeptBut w w5 F:=hF4.out.trans hk5 (fun k _ q=>q ▸ hF g (.inl rfl));have hz5:=hk5.size
 have hs5l:s5.t.last=s.t.last:=by rw[hs5.out,hs4.out]
 have hs5k:s5.keys=s.keys:=by rw[hs5.out,hs4.out]
 have hs5n:s5.t.count=s.t.count:=by rw[hs5.out,hs4.out]
 have z5:w5.cell? ⟨g,5,none⟩=some (.string (bs s.t.last)):=(hT5.blk.cell 5).trans (by rw[←hs5l];rfl);have zk:w5.cell? ⟨w.heap.size,0,none⟩=some (.string (bs e.key)):=hE5.cell 0;have lg5:=hT5.blk.lt;have le5:=hE5.lt
 have hlb:((bs s.t.last).toList==(bs e.key).toList)=false:=by rw[bs_toList,bs_toList];simpa using hl
 replace hs5l:=Lib.hid hs5l;replace hs5k:=Lib.hid hs5k;replace hs5n:=Lib.hid hs5n;replace hF5:=Lib.hid hF5;replace hl:=Lib.hid hl;clear x0 x2 y2;obtain⟨Ak,ck,hvk⟩:=hT5.ok.form;subst hvk;go_wp2_with fail
 go_region
 have hd5:Below w5.heap.size w5 w5.drew:=(Below.refl _ _).drew;have hTd:=hT5.below hd5;have hEd:=hE5.below hd5 hE5.lt
 have hFd:=hF5.out.then_below hd5
 have hzd:=hd5.size;clear z5 zk lg5 le5
 generalize w5.drew=wd at *
 have zk:wd.cell? ⟨w.heap.size,0,none⟩=some (.string (bs e.key)):=hEd.cell 0;have lgd:=hTd.blk.lt;have led:=hEd.lt;replace hFd:=Lib.hid hFd;have z17:wd.cell? ⟨g,17,none⟩=some (.slice Ak s5.keys.length ck):=hTd.blk.cell 17
 have hskl:s5.keys.length≤1073741824:=by rw[hs5k.out];exact hkl
 go_wp2_with fail
 have hxc:=@Ext.cell;have hxf:=@Ext.frozen;refine wp_hide (fun Q0 hQ0=>?_);refine wp_region_line (fun w'=>∃x:Ext _,w'=x.w) [some true,some false,some false,some false,some false,some false,some false,none,none,none,none,none] 1 (by kernel_rfl) (by kernel_rfl) ⟨⟨_,(Below.refl _ _).drew⟩,rfl⟩ ?_;simp only[earlyL,tailL]
 repeat (first | ((with_reducible refine wpMix_p ?_);go_big_quiet_step (fail);refine wpQuiet_nil ?_) | ((with_reducible refine wpMix_e ?_);go_big_quiet_step ((first | fail));refine wpQuiet_nil ?_))
 refine wpMix_nil ?_;clear hxc hxf;intro wx hwx;obtain⟨x,hx⟩:=hwx;have hb:=x.below;rw[←hx] at hb;clear hx x;have hbs18:=hb.size;have hTx:=hTd.below hb;have hEx:=hEd.below hb hEd.lt
 have hFx:=hFd.out.then_below hb
 have hownx:=World.ownsRow.alloc hTx.ok (.cells #[.string (bs e.key)] 9);have hrd:=new_str wx (bs e.key) 9
 have hone:∀u∈[Value.string (bs e.key)],u.oneCell'=true:=by
  intro u hu;simp at hu;subst hu;rfl
 replace hone:=Lib.hid hone;replace hFx:=Lib.hid hFx;refine wpTail_step ?_;intro Q1 hQ1;go_wp2_with fail
 refine hQ1 _ _ rfl (fun _=>⟨⟨_,hb.alloc hbs18 _⟩,rfl⟩) ?_;clear hQ1 Q1;refine wpTail_step ?_;intro Q1 hQ1
 go_wp2_with (at_builtin;refine wpList_append_any _ rfl (.tmp 87) (.tmp 90) 38 rfl 0 9 i0 (.string ⟨#[]⟩) 1 16 Tryz.underlying38 hi0 hz0 hz1' hz2' rfl (by omega) (.slice Ak s5.keys.length ck) s5.keys.length (s5.keys.map strV) rfl hownx (wx.heap.size+1) (some ⟨wx.heap.size,0,none⟩) 1 1 [.string (bs e.key)] rfl hrd hone.out (by unfold maxLen;omega) (by omega) (Nat.zero_le _) ?_;intro v6 w6a hown6 hgr6 hat6)
 refine hQ1 _ _ rfl (fun h=>absurd h (by decide)) ?_;clear hQ1 Q1;have ho6:=OwnS.of_law hown6;obtain⟨A6,c6,e6⟩:=ho6.form;rw[List.length_append,List.length_singleton] at e6;subst e6;obtain⟨hk6,hB6,y17,f17,l17⟩:=keys_facts hTx hgr6
 have hmv:Mv wx (.slice Ak s5.keys.length ck) (.slice A6 (s5.keys.length+1) c6):=by
  intro k hk;rcases hat6 with q | q
  ·exact .inl (by rw[←q];exact hk)
  ·have q6:=Option.some.inj (hk.symm.trans q);rw[World.size_alloc] at q6;exact .inr (by omega)
 have hBf:=hB6.set_ 17 (.slice A6 (s5.keys.length+1) c6);have hof:=own_set ho6 hB6 (by decide) (o:=17) (u:=.slice A6 (s5.keys.length+1) c6)
 have hkf:KeptBut wx (w6a.setCell ⟨g,17,none⟩ (.slice A6 (s5.keys.length+1) c6)) (fun k=>k=g∨(Value.slice Ak s5.keys.length ck).ownBlock=some k):=(hk6.mono (fun k _ q=>.inr q)).then_set (.inl rfl)
 have hT6:=hTx.rekeys hkf hof hmv hBf;have hE6:=hEx.keptB hkf (fun q=>q.elim (fun q=>hgne q) (fun q=>own_blk_ne hTx.ok hEx (by decide) q));have hF6:=hFx.out.trans hkf (fun k _ q=>hF k (q.elim .inl (fun q=>.inr (.inr (.inr (.inr (.inr (.inl q))))))));have hz6:=hkf.size;replace hT6:=Lib.hid hT6;replace hE6:=Lib.hid hE6;replace hF6:=Lib.hid hF6;clear hown6 hgr6 hat6 hownx hrd hkf hof hBf hB6 hk6 ho6 hTx hEx;refine wpTail_step ?_;intro Q1 hQ1
 go_wp2_with (fail)
 refine hQ1 _ _ rfl (fun h=>absurd h (by decide)) ?_;clear hQ1 Q1;refine wpTail_step ?_;intro Q1 hQ1
 go_wp2_with (fail)
 refine hQ1 _ _ rfl (fun h=>absurd h (by decide)) ?_;clear hQ1 Q1;refine wpTail_step ?_;intro Q1 hQ1
 go_wp2_with (fail)
 refine hQ1 _ _ rfl (fun h=>absurd h (by decide)) ?_;clear hQ1 Q1;refine wpTail_nil ?_;refine hQ0 _ _ ?_;clear hQ0 Q0
 generalize w6a.setCell ⟨g,17,none⟩ (.slice A6 (s5.keys.length+1) c6)=w6 at *
 obtain⟨xk,hxk⟩:∃q,q=Value.slice A6 (s5.keys.length+1) c6:=⟨_,rfl⟩;replace hT6:=hT6.out;rw[←hxk] at hT6 hmv;replace hE6:=hE6.out;obtain⟨s6,hs6⟩:∃s6,s6=({ s5 with keys:=s5.keys++[e.key] }:TB):=⟨_,rfl⟩;rw[←hs6] at hT6
 have hkm:∀k,xk.ownBlock=some k→Fx F w w6 k:=by
  intro k hk;rcases hmv k hk with q | q
  ·exact .inl (hF k (.inr (.inr (.inr (.inr (.inr (.inl q)))))))
  ·exact .inr (by omega)
 replace hs6:=Lib.hid hs6;have x0:w6.cell? ⟨w.heap.size,0,none⟩=some (.string (bs e.key)):=hE6.cell 0;have x2:w6.cell? ⟨w.heap.size,2,none⟩=some (.int .u64 (e.seq:Nat)):=hE6.cell 2;have hgel:=hE6.lt
 have hcb:s6.t.count≤1073741824:=by rw[hs6.out,hs5n.out];exact htc
 have hcw:=Lib.hid (show wrap64 (((s6.t.count:Nat):Int)+1)=((s6.t.count+1:Nat):Int) from by unfold wrap64;omega);have hcw2:=Lib.hid (show IntKind.i64.wrap (((s6.t.count:Nat):Int)+1)=((s6.t.count+1:Nat):Int) from by rw[IntKind.wrap_i64];omega);have hmin:=Lib.hid (show min ((s6.t.least:Nat):Int) (e.seq:Nat)=((min s6.t.least e.seq:Nat):Int) from by omega);have hmax:=Lib.hid (show max ((s6.t.most:Nat):Int) (e.seq:Nat)=((max s6.t.most e.seq:Nat):Int) from by omega);clear zk lgd led;go_wp2_with fail
 refine wp_region_task (fun d w'=>JT w6 g (st19 s6 e x y vb2 vs2 xk vp (d 27) (d 30) (d 33) (d 36)) w') (tauL [some (.pointer (some ⟨g,0,none⟩)),some (.pointer (some ⟨g,0,none⟩)),some (.pointer (some ⟨g,0,none⟩)),some (.pointer (some ⟨g,0,none⟩)),some (.pointer (some ⟨g,0,none⟩)),some (.pointer (some ⟨g,0,none⟩)),some (.pointer (some ⟨g,2,none⟩)),some (.int .i64 (s6.t.count:Nat)),some (.int .i64 (((s6.t.count+1:Nat)):Int)),some (.pointer (some ⟨w.heap.size,0,none⟩)),some (.string (bs e.key)),some (.pointer (some ⟨g,0,none⟩)),some (.pointer (some ⟨g,0,none⟩)),some (.pointer (some ⟨g,6,none⟩)),some (.int .u64 (s6.t.least:Nat)),some (.pointer (some ⟨w.heap.size,2,none⟩)),some (.int .u64 (e.seq:Nat)),some (.int .u64 ((min s6.t.least e.seq:Nat):Int)),some (.pointer (some ⟨g,0,none⟩)),some (.pointer (some ⟨g,0,none⟩)),some (.pointer (some ⟨g,7,none⟩)),some (.int .u64 (s6.t.most:Nat)),some (.pointer (some ⟨w.heap.size,2,none⟩)),some (.int .u64 (e.seq:Nat)),some (.int .u64 ((max s6.t.most e.seq:Nat):Int)),some (.pointer (some ⟨g,0,none⟩)),some (.pointer (some ⟨g,2,none⟩)),none,some (.pointer (some ⟨g,0,none⟩)),some (.pointer (some ⟨g,5,none⟩)),none,some (.pointer (some ⟨g,0,none⟩)),some (.pointer (some ⟨g,6,none⟩)),none,some (.pointer (some ⟨g,0,none⟩)),some (.pointer (some ⟨g,7,none⟩)),none] tauN) (usT [u94,u95,u96,u97,u98,u99,u100,u101,u102,u103,u104,u105,u106,u107,u108,u109,u110,u111,u112,u113,u114,u115,u116,u117,u118,u119,u120,undef,u121,u122,undef,u123,u124,undef,u125,u126,undef]) ?n1a ?n2a ?n3a ?n4a ⟨hT6.blk,(KeptBut.refl _ _).drew⟩ ?n5a ?n6a
 case n1a=>kernel_rfl
 case n2a=>kernel_rfl
 case n3a=>kernel_rfl
 case n4a=>kernel_rfl
 case n5a =>
  refine⟨?p0a,?p1a,?p2a,?p3a,?p4a,?p5a,?p6a,?p7a,?p8a,?p9a,?p10a,?p11a,?p12a,?p13a,?p14a,?p15a,?p16a,?p17a,?p18a,?p19a,?p20a,?p21a,?p22a,?p23a,?p24a,?p25a,?p26a,?p27a,?p28a,?p29a,?p30a,?p31a,?p32a,?p33a,?p34a,?p35a,?p36a,trivial⟩
  case p0a =>
   intro d us wx hd hJ hp hu hi;refine .inl ⟨by kernel_rfl,fun K Q hK=>?_⟩;simp only[putAll,Act.put,Nat.reduceAdd] at hK ⊢;go_simp;refine Eq.mp ?_ (hK (.pointer (some ⟨g,0,none⟩)) _ hJ rfl (fun _ _ _ h=>h))
   kernel_rfl
  case p1a =>
   intro d us wx hd hJ hp hu hi;refine .inl ⟨by kernel_rfl,fun K Q hK=>?_⟩;simp only[putAll,Act.put,Nat.reduceAdd] at hK ⊢;go_simp;refine Eq.mp ?_ (hK (.pointer (some ⟨g,0,none⟩)) _ hJ rfl (fun _ _ _ h=>h))
   kernel_rfl
  case p2a =>
   intro d us wx hd hJ hp hu hi;refine .inl ⟨by kernel_rfl,fun K Q hK=>?_⟩;simp only[putAll,Act.put,Nat.reduceAdd] at hK ⊢;go_simp;refine Eq.mp ?_ (hK (.pointer (some ⟨g,0,none⟩)) _ hJ rfl (fun _ _ _ h=>h))
   kernel_rfl
  case p3a =>
   intro d us wx hd hJ hp hu hi;refine .inl ⟨by kernel_rfl,fun K Q hK=>?_⟩;simp only[putAll,Act.put,Nat.reduceAdd] at hK ⊢;go_simp;refine Eq.mp ?_ (hK (.pointer (some ⟨g,0,none⟩)) _ hJ rfl (fun _ _ _ h=>h))
   kernel_rfl
  case p4a =>
   intro d us wx hd hJ hp hu hi;refine .inl ⟨by kernel_rfl,fun K Q hK=>?_⟩;simp only[putAll,Act.put,Nat.reduceAdd] at hK ⊢;go_simp;refine Eq.mp ?_ (hK (.pointer (some ⟨g,0,none⟩)) _ hJ rfl (fun _ _ _ h=>h))
   kernel_rfl
  case p5a =>
   intro d us wx hd hJ hp hu hi;have h4:us 4=_:=(hp 4 (by simp[Region.binds])).2;refine .inl ⟨by kernel_rfl,fun K Q hK=>?_⟩;simp only[putAll,Act.put,Nat.reduceAdd,h4] at hK ⊢;go_simp;refine Eq.mp ?_ (hK (.pointer (some ⟨g,0,none⟩)) _ hJ rfl (fun _ _ _ h=>h))
   kernel_rfl
  case p6a =>
   intro d us wx hd hJ hp hu hi;have h5:us 5=_:=(hp 5 (by simp[Region.binds])).2;refine .inl ⟨by kernel_rfl,fun K Q hK=>?_⟩;simp only[putAll,Act.put,Nat.reduceAdd,h5] at hK ⊢;go_simp;refine Eq.mp ?_ (hK (.pointer (some ⟨g,2,none⟩)) _ hJ rfl (fun _ _ _ h=>h))
   kernel_rfl
  case p7a =>
   intro d us wx hd hJ hp hu hi;have h6:us 6=_:=(hp 6 (by simp[Region.binds])).2;have hq0:=(hu 27 (by kernel_rfl)).1;have hJb:=hJ.1;rw[hq0] at hJb;have z0:=(hJb.cell 2).trans st19_c;have l0:=hJb.lt;refine .inl ⟨by kernel_rfl,fun K Q hK=>?_⟩;simp only[putAll,Act.put,Nat.reduceAdd,h6] at hK ⊢;go_simp;refine Eq.mp ?_ (hK (.int .i64 (s6.t.count:Nat)) _ hJ rfl (fun _ _ _ h=>h))
   kernel_rfl
  case p8a =>
   intro d us wx hd hJ hp hu hi;have h7:us 7=_:=(hp 7 (by simp[Region.binds])).2;refine .inl ⟨by kernel_rfl,fun K Q hK=>?_⟩;simp only[putAll,Act.put,Nat.reduceAdd,h7] at hK ⊢;go_simp
   (first | rw[hcw.out] | rw[hcw2.out] | skip)
   refine Eq.mp ?_ (hK (.int .i64 (((s6.t.count+1:Nat)):Int)) _ hJ rfl (fun _ _ _ h=>h))
   kernel_rfl
  case p9a =>
   intro d us wx hd hJ hp hu hi;refine .inl ⟨by kernel_rfl,fun K Q hK=>?_⟩;simp only[putAll,Act.put,Nat.reduceAdd] at hK ⊢;go_simp;refine Eq.mp ?_ (hK (.pointer (some ⟨w.heap.size,0,none⟩)) _ hJ rfl (fun _ _ _ h=>h))
   kernel_rfl
  case p10a =>
   intro d us wx hd hJ hp hu hi;have h9:us 9=_:=(hp 9 (by simp[Region.binds])).2;have z0:wx.cell? ⟨w.heap.size,0,none⟩=some (.string (bs e.key)):=(hJ.2.cell ⟨w.heap.size,0,none⟩ hgel hgne).trans x0;refine .inl ⟨by kernel_rfl,fun K Q hK=>?_⟩;simp only[putAll,Act.put,Nat.reduceAdd,h9] at hK ⊢;go_simp;refine Eq.mp ?_ (hK (.string (bs e.key)) _ hJ rfl (fun _ _ _ h=>h))
   kernel_rfl
  case p11a =>
   intro d us wx hd hJ hp hu hi;refine .inl ⟨by kernel_rfl,fun K Q hK=>?_⟩;simp only[putAll,Act.put,Nat.reduceAdd] at hK ⊢;go_simp;refine Eq.mp ?_ (hK (.pointer (some ⟨g,0,none⟩)) _ hJ rfl (fun _ _ _ h=>h))
   kernel_rfl
  case p12a =>
   intro d us wx hd hJ hp hu hi;have h11:us 11=_:=(hp 11 (by simp[Region.binds])).2;refine .inl ⟨by kernel_rfl,fun K Q hK=>?_⟩;simp only[putAll,Act.put,Nat.reduceAdd,h11] at hK ⊢;go_simp;refine Eq.mp ?_ (hK (.pointer (some ⟨g,0,none⟩)) _ hJ rfl (fun _ _ _ h=>h))
   kernel_rfl
  case p13a =>
   intro d us wx hd hJ hp hu hi;have h12:us 12=_:=(hp 12 (by simp[Region.binds])).2;refine .inl ⟨by kernel_rfl,fun K Q hK=>?_⟩;simp only[putAll,Act.put,Nat.reduceAdd,h12] at hK ⊢;go_simp;refine Eq.mp ?_ (hK (.pointer (some ⟨g,6,none⟩)) _ hJ rfl (fun _ _ _ h=>h))
   kernel_rfl
  case p14a =>
   intro d us wx hd hJ hp hu hi;have h13:us 13=_:=(hp 13 (by simp[Region.binds])).2;have hq0:=(hu 33 (by kernel_rfl)).1;have hJb:=hJ.1;rw[hq0] at hJb;have z0:=(hJb.cell 6).trans st19_l;have l0:=hJb.lt;refine .inl ⟨by kernel_rfl,fun K Q hK=>?_⟩;simp only[putAll,Act.put,Nat.reduceAdd,h13] at hK ⊢;go_simp;refine Eq.mp ?_ (hK (.int .u64 (s6.t.least:Nat)) _ hJ rfl (fun _ _ _ h=>h))
   kernel_rfl
  case p15a =>
   intro d us wx hd hJ hp hu hi;refine .inl ⟨by kernel_rfl,fun K Q hK=>?_⟩;simp only[putAll,Act.put,Nat.reduceAdd] at hK ⊢;go_simp;refine Eq.mp ?_ (hK (.pointer (some ⟨w.heap.size,2,none⟩)) _ hJ rfl (fun _ _ _ h=>h))
   kernel_rfl
  case p16a =>
   intro d us wx hd hJ hp hu hi;have h15:us 15=_:=(hp 15 (by simp[Region.binds])).2;have z0:wx.cell? ⟨w.heap.size,2,none⟩=some (.int .u64 (e.seq:Nat)):=(hJ.2.cell ⟨w.heap.size,2,none⟩ hgel hgne).trans x2;refine .inl ⟨by kernel_rfl,fun K Q hK=>?_⟩;simp only[putAll,Act.put,Nat.reduceAdd,h15] at hK ⊢;go_simp;refine Eq.mp ?_ (hK (.int .u64 (e.seq:Nat)) _ hJ rfl (fun _ _ _ h=>h))
   kernel_rfl
  case p17a =>
   intro d us wx hd hJ hp hu hi;have h14:us 14=_:=(hp 14 (by simp[Region.binds])).2;have h16:us 16=_:=(hp 16 (by simp[Region.binds])).2;refine .inl ⟨by kernel_rfl,fun K Q hK=>?_⟩;simp only[putAll,Act.put,Nat.reduceAdd,h14,h16] at hK ⊢;go_simp;rw[hmin.out];refine Eq.mp ?_ (hK (.int .u64 ((min s6.t.least e.seq:Nat):Int)) _ hJ rfl (fun _ _ _ h=>h))
   kernel_rfl
  case p18a =>
   intro d us wx hd hJ hp hu hi;refine .inl ⟨by kernel_rfl,fun K Q hK=>?_⟩;simp only[putAll,Act.put,Nat.reduceAdd] at hK ⊢;go_simp;refine Eq.mp ?_ (hK (.pointer (some ⟨g,0,none⟩)) _ hJ rfl (fun _ _ _ h=>h))
   kernel_rfl
  case p19a =>
   intro d us wx hd hJ hp hu hi;have h18:us 18=_:=(hp 18 (by simp[Region.binds])).2;refine .inl ⟨by kernel_rfl,fun K Q hK=>?_⟩;simp only[putAll,Act.put,Nat.reduceAdd,h18] at hK ⊢;go_simp;refine Eq.mp ?_ (hK (.pointer (some ⟨g,0,none⟩)) _ hJ rfl (fun _ _ _ h=>h))
   kernel_rfl
  case p20a =>
   intro d us wx hd hJ hp hu hi;have h19:us 19=_:=(hp 19 (by simp[Region.binds])).2;refine .inl ⟨by kernel_rfl,fun K Q hK=>?_⟩;simp only[putAll,Act.put,Nat.reduceAdd,h19] at hK ⊢;go_simp;refine Eq.mp ?_ (hK (.pointer (some ⟨g,7,none⟩)) _ hJ rfl (fun _ _ _ h=>h))
   kernel_rfl
  case p21a =>
   intro d us wx hd hJ hp hu hi;have h20:us 20=_:=(hp 20 (by simp[Region.binds])).2;have hq0:=(hu 36 (by kernel_rfl)).1;have hJb:=hJ.1;rw[hq0] at hJb;have z0:=(hJb.cell 7).trans st19_m;have l0:=hJb.lt;refine .inl ⟨by kernel_rfl,fun K Q hK=>?_⟩;simp only[putAll,Act.put,Nat.reduceAdd,h20] at hK ⊢;go_simp;refine Eq.mp ?_ (hK (.int .u64 (s6.t.most:Nat)) _ hJ rfl (fun _ _ _ h=>h))
   kernel_rfl
  case p22a =>
   intro d us wx hd hJ hp hu hi;refine .inl ⟨by kernel_rfl,fun K Q hK=>?_⟩;simp only[putAll,Act.put,Nat.reduceAdd] at hK ⊢;go_simp;refine Eq.mp ?_ (hK (.pointer (some ⟨w.heap.size,2,none⟩)) _ hJ rfl (fun _ _ _ h=>h))
   kernel_rfl
  case p23a =>
   intro d us wx hd hJ hp hu hi;have h22:us 22=_:=(hp 22 (by simp[Region.binds])).2;have z0:wx.cell? ⟨w.heap.size,2,none⟩=some (.int .u64 (e.seq:Nat)):=(hJ.2.cell ⟨w.heap.size,2,none⟩ hgel hgne).trans x2;refine .inl ⟨by kernel_rfl,fun K Q hK=>?_⟩;simp only[putAll,Act.put,Nat.reduceAdd,h22] at hK ⊢;go_simp;refine Eq.mp ?_ (hK (.int .u64 (e.seq:Nat)) _ hJ rfl (fun _ _ _ h=>h))
   kernel_rfl
  case p24a =>
   intro d us wx hd hJ hp hu hi;have h21:us 21=_:=(hp 21 (by simp[Region.binds])).2;have h23:us 23=_:=(hp 23 (by simp[Region.binds])).2;refine .inl ⟨by kernel_rfl,fun K Q hK=>?_⟩;simp only[putAll,Act.put,Nat.reduceAdd,h21,h23] at hK ⊢;go_simp;rw[hmax.out];refine Eq.mp ?_ (hK (.int .u64 ((max s6.t.most e.seq:Nat):Int)) _ hJ rfl (fun _ _ _ h=>h))
   kernel_rfl
  case p25a =>
   intro d us wx hd hJ hp hu hi;have h0:us 0=_:=(hp 0 (by simp[Region.binds])).2;refine .inl ⟨by kernel_rfl,fun K Q hK=>?_⟩;simp only[putAll,Act.put,Nat.reduceAdd,h0] at hK ⊢;go_simp;refine Eq.mp ?_ (hK (.pointer (some ⟨g,0,none⟩)) _ hJ rfl (fun _ _ _ h=>h))
   kernel_rfl
  case p26a =>
   intro d us wx hd hJ hp hu hi;have h25:us 25=_:=(hp 25 (by simp[Region.binds])).2;refine .inl ⟨by kernel_rfl,fun K Q hK=>?_⟩;simp only[putAll,Act.put,Nat.reduceAdd,h25] at hK ⊢;go_simp;refine Eq.mp ?_ (hK (.pointer (some ⟨g,2,none⟩)) _ hJ rfl (fun _ _ _ h=>h))
   kernel_rfl
  case p27a =>
   intro d us wx hd hJ hp hu hi;have h26:us 26=_:=(hp 26 (by simp[Region.binds])).2;have h8:us 8=_:=(hp 8 (by simp[Region.binds])).2;obtain⟨v0,hv0⟩:=some_of (i:=2) (cs:=st19 s6 e x y vb2 vs2 xk vp (d 27) (d 30) (d 33) (d 36)) (by rw[st19_sz];decide);have z0:=(hJ.1.cell 2).trans hv0;have f0:=hJ.1.frozen 2;have l0:=hJ.1.lt;refine .inl ⟨by kernel_rfl,fun K Q hK=>?_⟩;simp only[putAll,Act.put,Nat.reduceAdd,h26,h8] at hK ⊢;go_simp;refine Eq.mp ?_ (hK (undef) (wx.setCell ⟨g,2,none⟩ (.int .i64 (((s6.t.count+1:Nat)):Int))) (JT.set hJ st19_2) trivial (fun k u _ h=>tauL_any k u h))
   kernel_rfl
  case p28a =>
   intro d us wx hd hJ hp hu hi;have h1:us 1=_:=(hp 1 (by simp[Region.binds])).2;refine .inl ⟨by kernel_rfl,fun K Q hK=>?_⟩;simp only[putAll,Act.put,Nat.reduceAdd,h1] at hK ⊢;go_simp;refine Eq.mp ?_ (hK (.pointer (some ⟨g,0,none⟩)) _ hJ rfl (fun _ _ _ h=>h))
   kernel_rfl
  case p29a =>
   intro d us wx hd hJ hp hu hi;have h28:us 28=_:=(hp 28 (by simp[Region.binds])).2;refine .inl ⟨by kernel_rfl,fun K Q hK=>?_⟩;simp only[putAll,Act.put,Nat.reduceAdd,h28] at hK ⊢;go_simp;refine Eq.mp ?_ (hK (.pointer (some ⟨g,5,none⟩)) _ hJ rfl (fun _ _ _ h=>h))
   kernel_rfl
  case p30a =>
   intro d us wx hd hJ hp hu hi;have h29:us 29=_:=(hp 29 (by simp[Region.binds])).2;have h10:us 10=_:=(hp 10 (by simp[Region.binds])).2;obtain⟨v0,hv0⟩:=some_of (i:=5) (cs:=st19 s6 e x y vb2 vs2 xk vp (d 27) (d 30) (d 33) (d 36)) (by rw[st19_sz];decide);have z0:=(hJ.1.cell 5).trans hv0;have f0:=hJ.1.frozen 5;have l0:=hJ.1.lt;refine .inl ⟨by kernel_rfl,fun K Q hK=>?_⟩;simp only[putAll,Act.put,Nat.reduceAdd,h29,h10] at hK ⊢;go_simp;refine Eq.mp ?_ (hK (undef) (wx.setCell ⟨g,5,none⟩ (.string (bs e.key))) (JT.set hJ st19_5) trivial (fun k u _ h=>tauL_any k u h))
   kernel_rfl
  case p31a =>
   intro d us wx hd hJ hp hu hi;have h2:us 2=_:=(hp 2 (by simp[Region.binds])).2;refine .inl ⟨by kernel_rfl,fun K Q hK=>?_⟩;simp only[putAll,Act.put,Nat.reduceAdd,h2] at hK ⊢;go_simp;refine Eq.mp ?_ (hK (.pointer (some ⟨g,0,none⟩)) _ hJ rfl (fun _ _ _ h=>h))
   kernel_rfl
  case p32a =>
   intro d us wx hd hJ hp hu hi;have h31:us 31=_:=(hp 31 (by simp[Region.binds])).2;refine .inl ⟨by kernel_rfl,fun K Q hK=>?_⟩;simp only[putAll,Act.put,Nat.reduceAdd,h31] at hK ⊢;go_simp;refine Eq.mp ?_ (hK (.pointer (some ⟨g,6,none⟩)) _ hJ rfl (fun _ _ _ h=>h))
   kernel_rfl
  case p33a =>
   intro d us wx hd hJ hp hu hi;have h32:us 32=_:=(hp 32 (by simp[Region.binds])).2;have h17:us 17=_:=(hp 17 (by simp[Region.binds])).2;obtain⟨v0,hv0⟩:=some_of (i:=6) (cs:=st19 s6 e x y vb2 vs2 xk vp (d 27) (d 30) (d 33) (d 36)) (by rw[st19_sz];decide);have z0:=(hJ.1.cell 6).trans hv0;have f0:=hJ.1.frozen 6;have l0:=hJ.1.lt;refine .inl ⟨by kernel_rfl,fun K Q hK=>?_⟩;simp only[putAll,Act.put,Nat.reduceAdd,h32,h17] at hK ⊢;go_simp;refine Eq.mp ?_ (hK (undef) (wx.setCell ⟨g,6,none⟩ (.int .u64 ((min s6.t.least e.seq:Nat):Int))) (JT.set hJ st19_6) trivial (fun k u _ h=>tauL_any k u h))
   kernel_rfl
  case p34a =>
   intro d us wx hd hJ hp hu hi;have h3:us 3=_:=(hp 3 (by simp[Region.binds])).2;refine .inl ⟨by kernel_rfl,fun K Q hK=>?_⟩;simp only[putAll,Act.put,Nat.reduceAdd,h3] at hK ⊢;go_simp;refine Eq.mp ?_ (hK (.pointer (some ⟨g,0,none⟩)) _ hJ rfl (fun _ _ _ h=>h))
   kernel_rfl
  case p35a =>
   intro d us wx hd hJ hp hu hi;have h34:us 34=_:=(hp 34 (by simp[Region.binds])).2;refine .inl ⟨by kernel_rfl,fun K Q hK=>?_⟩;simp only[putAll,Act.put,Nat.reduceAdd,h34] at hK ⊢;go_simp;refine Eq.mp ?_ (hK (.pointer (some ⟨g,7,none⟩)) _ hJ rfl (fun _ _ _ h=>h))
   kernel_rfl
  case p36a =>
   intro d us wx hd hJ hp hu hi;have h35:us 35=_:=(hp 35 (by simp[Region.binds])).2;have h24:us 24=_:=(hp 24 (by simp[Region.binds])).2;obtain⟨v0,hv0⟩:=some_of (i:=7) (cs:=st19 s6 e x y vb2 vs2 xk vp (d 27) (d 30) (d 33) (d 36)) (by rw[st19_sz];decide);have z0:=(hJ.1.cell 7).trans hv0;have f0:=hJ.1.frozen 7;have l0:=hJ.1.lt;refine .inl ⟨by kernel_rfl,fun K Q hK=>?_⟩;simp only[putAll,Act.put,Nat.reduceAdd,h35,h24] at hK ⊢;go_simp;refine Eq.mp ?_ (hK (undef) (wx.setCell ⟨g,7,none⟩ (.int .u64 ((max s6.t.most e.seq:Nat):Int))) (JT.set hJ st19_7) trivial (fun k u _ h=>tauL_any k u h))
   kernel_rfl
 intro d us w7 hJ hall;have q27:=(hall 27 (by simp)).1;have q30:=(hall 30 (by simp)).1;have q33:=(hall 33 (by simp)).1;have q36:=(hall 36 (by simp)).1;rw[q27,q30,q33,q36] at hJ;obtain⟨hB7,hk7⟩:=hJ;simp only[putAll,Act.put,Nat.reduceAdd];clear hall
 have heq:st19 s6 e x y vb2 vs2 xk vp true true true true=tbC (s.put e) x y vb2 vs2 xk vp:=by
  rw[hs6.out,hs5.out,hs4.out];unfold st19 TB.put tbC;simp[hc,hl.out]
 rw[heq] at hB7;have hT7:TBAt w7 0 g (s.put e) x y vb2 vs2 xk vp:=hT6.reblk hk7 hB7 (by rw[hs6.out,hs5.out,hs4.out];rfl) (by rw[hs6.out,hs5.out,hs4.out];rfl) (by rw[hs6.out,hs5.out,hs4.out];unfold TB.put;simp[hl.out]) (by rw[hs6.out,hs5.out,hs4.out];rfl);have hF7:KeptBut w w7 F:=hF6.out.trans hk7 (fun k _ q=>q ▸ hF g (.inl rfl));have hz7:=hF7.size
 have hin7:TBIn w7 (Fx F w w7) g (s.put e):=⟨_,_,_,_,_,_,hT7,fun k q=>by
  rcases q with q | q | q | q | q | q | q
  ·exact hin4.out k (.inl q)
  ·exact hin4.out k (.inr (.inl q))
  ·exact hin4.out k (.inr (.inr (.inl q)))
  ·exact hin4.out k (.inr (.inr (.inr (.inl q))))
  ·exact hin4.out k (.inr (.inr (.inr (.inr (.inl q)))))
  ·exact hkm k q
  ·exact hin4.out k (.inr (.inr (.inr (.inr (.inr (.inr q))))))⟩
 have hrv:=rowV_len e;have hrk:(rowK e).length=(internalL e.key e.seq).length:=rfl;obtain⟨p1,p2,p3,p4⟩:=BB.add_bd s.data (rowK e) (rowV e) nb1 nb2 nb3 nb4;have hpd:(s.put e).data=s.data.add (rowK e) (rowV e):=rfl;rw[←hpd] at p1 p2 p3 p4;have hsize:=Lib.hid (BSize_any hT7.data (by omega) (by omega));have lg7:=hT7.blk.lt;replace hT7:=Lib.hid hT7;replace hB7:=Lib.hid hB7;replace hF7:=Lib.hid hF7;replace hin7:=Lib.hid hin7;have hends:=fun (w8:World) (hb8:Below w7.heap.size w7 w8)=>ends_any (hin7.out.below hb8) (by omega) (by omega) (fun n hn=>by have:=p3 n hn;omega) (by omega) hi1 hi2 hi3 hi4 hat hpl;replace hends:=Lib.hid hends;replace hpd:=Lib.hid hpd;clear x0 x2
 by_cases h256:256≤(s.put e).data.size
 ·have hR:s.add e=((s.put e).ends,(s.put e).data.out):=by unfold TB.add;rw[if_pos he,if_pos h256]
  have h256':(256:Int)≤((s.put e).data.size:Nat):=by omega
  replace hR:=Lib.hid hR;go_wp2_with fail
  refine hsize.out.mono ?_;rintro r w8 ⟨rfl,hb8⟩;go_wp2_with fail
  refine (hends.out w8 hb8).mono ?_;rintro r w9 ⟨rfl,hin9,hk9⟩;go_wp2_with fail
  go_ret2
  rw[hR.out]
  refine⟨rfl,hin9.more (fun k q=>?_),(hF7.out.then_below hb8).trans hk9 (fun k hk q=>?_)⟩
  ·rcases q with q | q
   ·exact q
   ·exact .inr (by have:=hb8.size;omega)
  ·rcases q with q | q
   ·exact q
   ·omega
 ·have hR:s.add e=(s.put e,[]):=by unfold TB.add;rw[if_pos he,if_neg h256]
  have h256':¬(256:Int)≤((s.put e).data.size:Nat):=by omega
  replace hR:=Lib.hid hR;go_wp2_with fail
  refine hsize.out.mono ?_;rintro r w8 ⟨rfl,hb8⟩;go_wp2_with fail
  go_ret2
  rw[hR.out]
  exact⟨rfl,hin7.out.below hb8,hF7.out.then_below hb8⟩
end Go.Proofs.YtlpojfgeocpkeaaGreatDoor
