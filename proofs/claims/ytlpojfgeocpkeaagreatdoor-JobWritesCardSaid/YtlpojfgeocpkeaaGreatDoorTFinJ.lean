/- table.Builder: Finish: the tail's bytes (printed by genfin.py out of TFin.in). -/
import Derived.Test.YtlpojfgeocpkeaaGreatDoorX23
namespace Go.Proofs.YtlpojfgeocpkeaaGreatDoor
open Go.RowKit
set_option linter.unusedVariables false
set_option linter.unusedSimpArgs false
def JF (w1:World)(g:Nat)(s1:TB)(vb1 vs1 vb2 vs2 vk vp:Value):Bool→World→Prop
 | false,w=>Below w1.heap.size w1 w
 | true,w=>KeptBut w1 w (BS g vb2 vs2)∧Blk w g 159 (tbC { s1 with index:=BB.new } vb1 vs1 (.slice none 0 0) (.slice none 0 0) vk vp)
section
variable {w1 w w':World}{g:Nat}{s1:TB}{vb1 vs1 vb2 vs2 vk vp:Value}{b:Bool}
theorem JF.of_false (hb:b=false)(h:JF w1 g s1 vb1 vs1 vb2 vs2 vk vp b w):Below w1.heap.size w1 w:=by subst hb;exact h
theorem JF.below (h:JF w1 g s1 vb1 vs1 vb2 vs2 vk vp b w)(hb:Below w.heap.size w w'):JF w1 g s1 vb1 vs1 vb2 vs2 vk vp b w':=by
 cases b
 ·exact Below.trans h (hb.mono (Below.size h))
 ·exact⟨h.1.then_below hb,h.2.below hb h.2.lt⟩
theorem JF.true_ (h:Below w1.heap.size w1 w)(hI:BBAt w' 0 g 159 12 (setBB (tbC s1 vb1 vs1 vb2 vs2 vk vp) 12 (.slice none 0 0) (.slice none 0 0) BB.new) BB.new (.slice none 0 0) (.slice none 0 0))(hk:KeptBut w w' (BS g vb2 vs2)):JF w1 g s1 vb1 vs1 vb2 vs2 vk vp true w' :=
 ⟨(KeptBut.of_below h).trans hk (fun k _ e=>e),hI.blk⟩
theorem JF.cell (hT:TBAt w1 0 g s1 vb1 vs1 vb2 vs2 vk vp)(h:JF w1 g s1 vb1 vs1 vb2 vs2 vk vp b w):w.cell? ⟨g,19,none⟩=some (.int .i64 (s1.at_:Nat))∧w.cell? ⟨g,2,none⟩=some (.int .i64 (s1.t.count:Nat))∧g<w.heap.size:=by
 cases b
 ·have hB:=hT.blk.below h hT.blk.lt;exact⟨hB.cell 19,hB.cell 2,hB.lt⟩
 ·exact⟨h.2.cell 19,h.2.cell 2,h.2.lt⟩
end
theorem results_tct {fn:Func}{a p u:Tmp}{ty:TypeId}(h:fn.results=#[.tmp a,.cell p ty,.tmp u])(tmps:Array Value)(w:World)(g:Nat)(v x y:Value)
  (hx:tmps.getD a undef=x) (hp:tmps.getD p undef=.pointer (some ⟨g,0,none⟩)) (hy:tmps.getD u undef=y) (hl:(loadVar ty ⟨g,0,none⟩).run Tryz.prog w=.ok v w) :
  (results fn tmps).run Tryz.prog w=.ok (.tuple #[x,v,y]) w:=by
 have hx':tmps[a]?.getD undef=x:=by simpa using hx
 have hp':tmps[p]?.getD undef=.pointer (some ⟨g,0,none⟩):=by simpa using hp
 have hy':tmps[u]?.getD undef=y:=by simpa using hy
 simp only[results,h];simp[Sem.run_bind,Result.andThen,hx',hp',hy',asAddr,hl]
theorem KeptBut.then_new {w w':World}{S:Nat→Prop}(h:KeptBut w w' S){b o:Nat}{v:Value}(hb:w.heap.size≤b):KeptBut w (w'.setCell ⟨b,o,none⟩ v) S :=
 ⟨h.os,h.tape,h.output,Nat.le_trans h.size (by simp[World.setCell]),fun k hk hs=>(Below.heap_setCell _ _ _ _ (by show k≠b;omega)).trans (h.block k hk hs)⟩
set_option maxHeartbeats 1000000 in
theorem ti_set {w:World}{g t:Nat}{a0 a1 a2 a3 a4 a5 a6 a7:Value}(h:Blk w g t #[a0,a1,a2,a3,a4,a5,a6,a7])(x:TI):Blk ((((((((w.setCell ⟨g,0,none⟩ (.int .u64 (x.n:Nat))).setCell ⟨g,1,none⟩ (.int .i64 x.level)).setCell ⟨g,2,none⟩ (.int .i64 (x.count:Nat))).setCell ⟨g,3,none⟩ (.int .i64 (x.size:Nat))).setCell ⟨g,4,none⟩ (.string (bs x.first))).setCell ⟨g,5,none⟩ (.string (bs x.last))).setCell ⟨g,6,none⟩ (.int .u64 (x.least:Nat))).setCell ⟨g,7,none⟩ (.int .u64 (x.most:Nat))) g t
  #[.int .u64 (x.n:Nat),.int .i64 x.level,.int .i64 (x.count:Nat),.int .i64 (x.size:Nat),strV x.first,strV x.last,.int .u64 (x.least:Nat),.int .u64 (x.most:Nat)]:=by
 have h0:Blk (w.setCell ⟨g,0,none⟩ (.int .u64 (x.n:Nat))) g t #[.int .u64 (x.n:Nat),a1,a2,a3,a4,a5,a6,a7]:=by
  have:=h.set_ 0 (.int .u64 (x.n:Nat))
  simpa using this
 have h1:Blk ((w.setCell ⟨g,0,none⟩ (.int .u64 (x.n:Nat))).setCell ⟨g,1,none⟩ (.int .i64 x.level)) g t #[.int .u64 (x.n:Nat),.int .i64 x.level,a2,a3,a4,a5,a6,a7]:=by
  have:=h0.set_ 1 (.int .i64 x.level)
  simpa using this
 have h2:Blk (((w.setCell ⟨g,0,none⟩ (.int .u64 (x.n:Nat))).setCell ⟨g,1,none⟩ (.int .i64 x.level)).setCell ⟨g,2,none⟩ (.int .i64 (x.count:Nat))) g t #[.int .u64 (x.n:Nat),.int .i64 x.level,.int .i64 (x.count:Nat),a3,a4,a5,a6,a7]:=by
  have:=h1.set_ 2 (.int .i64 (x.count:Nat))
  simpa using this
 have h3:Blk ((((w.setCell ⟨g,0,none⟩ (.int .u64 (x.n:Nat))).setCell ⟨g,1,none⟩ (.int .i64 x.level)).setCell ⟨g,2,none⟩ (.int .i64 (x.count:Nat))).setCell ⟨g,3,none⟩ (.int .i64 (x.size:Nat))) g t #[.int .u64 (x.n:Nat),.int .i64 x.level,.int .i64 (x.count:Nat),.int .i64 (x.size:Nat),a4,a5,a6,a7]:=by
  have:=h2.set_ 3 (.int .i64 (x.size:Nat))
  simpa using this
 have h4:Blk (((((w.setCell ⟨g,0,none⟩ (.int .u64 (x.n:Nat))).setCell ⟨g,1,none⟩ (.int .i64 x.level)).setCell ⟨g,2,none⟩ (.int .i64 (x.count:Nat))).setCell ⟨g,3,none⟩ (.int .i64 (x.size:Nat))).setCell ⟨g,4,none⟩ (.string (bs x.first))) g t #[.int .u64 (x.n:Nat),.int .i64 x.level,.int .i64 (x.count:Nat),.int .i64 (x.size:Nat),.string (bs x.first),a5,a6,a7]:=by
  have:=h3.set_ 4 (.string (bs x.first))
  simpa using this
 have h5:Blk ((((((w.setCell ⟨g,0,none⟩ (.int .u64 (x.n:Nat))).setCell ⟨g,1,none⟩ (.int .i64 x.level)).setCell ⟨g,2,none⟩ (.int .i64 (x.count:Nat))).setCell ⟨g,3,none⟩ (.int .i64 (x.size:Nat))).setCell ⟨g,4,none⟩ (.string (bs x.first))).setCell ⟨g,5,none⟩ (.string (bs x.last))) g t #[.int .u64 (x.n:Nat),.int .i64 x.level,.int .i64 (x.count:Nat),.int .i64 (x.size:Nat),.string (bs x.first),.string (bs x.last),a6,a7]:=by
  have:=h4.set_ 5 (.string (bs x.last))
  simpa using this
 have h6:Blk (((((((w.setCell ⟨g,0,none⟩ (.int .u64 (x.n:Nat))).setCell ⟨g,1,none⟩ (.int .i64 x.level)).setCell ⟨g,2,none⟩ (.int .i64 (x.count:Nat))).setCell ⟨g,3,none⟩ (.int .i64 (x.size:Nat))).setCell ⟨g,4,none⟩ (.string (bs x.first))).setCell ⟨g,5,none⟩ (.string (bs x.last))).setCell ⟨g,6,none⟩ (.int .u64 (x.least:Nat))) g t #[.int .u64 (x.n:Nat),.int .i64 x.level,.int .i64 (x.count:Nat),.int .i64 (x.size:Nat),.string (bs x.first),.string (bs x.last),.int .u64 (x.least:Nat),a7]:=by
  have:=h5.set_ 6 (.int .u64 (x.least:Nat))
  simpa using this
 have h7:Blk ((((((((w.setCell ⟨g,0,none⟩ (.int .u64 (x.n:Nat))).setCell ⟨g,1,none⟩ (.int .i64 x.level)).setCell ⟨g,2,none⟩ (.int .i64 (x.count:Nat))).setCell ⟨g,3,none⟩ (.int .i64 (x.size:Nat))).setCell ⟨g,4,none⟩ (.string (bs x.first))).setCell ⟨g,5,none⟩ (.string (bs x.last))).setCell ⟨g,6,none⟩ (.int .u64 (x.least:Nat))).setCell ⟨g,7,none⟩ (.int .u64 (x.most:Nat))) g t #[.int .u64 (x.n:Nat),.int .i64 x.level,.int .i64 (x.count:Nat),.int .i64 (x.size:Nat),.string (bs x.first),.string (bs x.last),.int .u64 (x.least:Nat),.int .u64 (x.most:Nat)]:=by
  have:=h6.set_ 7 (.int .u64 (x.most:Nat))
  simpa using this
 exact h7
def tiC (t:TI):Array Value:=#[.int .u64 (t.n:Nat),.int .i64 t.level,.int .i64 (t.count:Nat),.int .i64 (t.size:Nat),strV t.first,strV t.last,.int .u64 (t.least:Nat),.int .u64 (t.most:Nat)]
theorem load_ti {w:World}{g:Nat}{cs:Array Value}(h:Blk w g 51 cs)(hs:cs.size=8):(loadVar 51 ⟨g,0,none⟩).run Tryz.prog w=.ok (.agg cs) w :=
 run_loadVar_row w g 51 51 cs (0,0) _ h Tryz.underlying51 rfl (by rw[hs];kernel_rfl)
set_option maxRecDepth 100000 in
set_option maxHeartbeats 4000000 in
theorem Fin_no {w:World}{F:Nat→Prop}{g:Nat}{s:TB}(h:TBIn w F g s)(hG:Gl w)(hG0:¬F 1)(hG1:¬F 4)(hpl:s.parts.length≤1073741824)(hps:∀p∈s.parts,p.length≤1073741824)(hdn:s.done=false)(hcn:s.t.count≠0)(hd0:s.data.count=0)(hk:∀k∈s.keys,k.length≤1048576)(hkn:s.keys.length≤1073741824)
  (hi1:s.index.b.length≤274877906944) (hi2:s.index.starts.length≤1073741824) (hi3:s.index.count≤1073741824) (hi4:∀n∈s.index.starts,n<9223372036854775807) (hat:s.at_≤4398046511104) (htc:s.t.count≤1073741824) :
  Calls Tryz.prog 89 #[.pointer (some ⟨g,0,none⟩)] w fun r w'=>r=.returned (.tuple #[.string (bs s.tail),.agg (tiC { s.t with size:=s.at_+s.tail.length }),.int .i64 0])∧(∃a b c d e f,Blk w' g 159 (tbC { s with index:=BB.new,t:={ s.t with size:=s.at_+s.tail.length },done:=true } a b c d e f))∧KeptBut w w' F:=by
 obtain⟨vb1,vs1,vb2,vs2,vk,vp,hT,hF⟩:=h;have c20:w.cell? ⟨g,20,none⟩=some (.bool false):=(hT.blk.cell 20).trans (by simp[tbC,hdn]);have c2:w.cell? ⟨g,2,none⟩=some (.int .i64 (s.t.count:Nat)):=hT.blk.cell 2;have hlt:=hT.blk.lt
 have hcI:¬((s.t.count:Nat):Int)=0:=by omega
 have hcB:(((s.t.count:Nat):Int)==0)=false:=by simpa using hcI
 obtain⟨Ak,ck,hvk⟩:=hT.ok.form;subst hvk;have hA:Below w.heap.size w (w.alloc (.cells #[.int .u64 0,.int .i64 0,.int .i64 0,.int .i64 0,.string ⟨#[]⟩,.string ⟨#[]⟩,.int .u64 0,.int .u64 0] 51)):=(Below.refl _ _).alloc (Nat.le_refl _) _;have hT0:=hT.below hA;have hcnt:=BCount_any hT0.data;rw[hd0] at hcnt;replace hcnt:=Lib.hid hcnt;replace hT0:=Lib.hid hT0
 go_enter Tryz.func89,Tryz.ntmps89
 go_wp2_with fail
 refine hcnt.out.mono ?_;rintro r wa ⟨rfl,hba⟩;have hTa:=hT0.out.below hba;have hGa:Gl wa:=(hG.below hA hG.lt).below hba (by have:=hG.lt;have:=hA.size;omega);have hKa:KeptBut w wa F:=KeptBut.of_below (hA.trans (hba.mono hA.size))
 have hza:w.heap.size<wa.heap.size:=by have:=hba.size;rw[World.size_alloc] at this;omega
 have hRa:Blk wa w.heap.size 51 #[.int .u64 0,.int .i64 0,.int .i64 0,.int .i64 0,.string ⟨#[]⟩,.string ⟨#[]⟩,.int .u64 0,.int .u64 0]:=(Blk.new w _ _).below hba (by rw[World.size_alloc];omega);have c17:wa.cell? ⟨g,17,none⟩=some (.slice Ak s.keys.length ck):=hTa.blk.cell 17;have la:=hTa.blk.lt
 have hmk:=Make_any Ak (s.keys.map bs) ck wa (by
  have:=Reads.of_own hTa.ok;rw[List.length_map,List.map_map]
  exact this) (by rw[List.length_map];exact hkn) (fun q hq=>by
  obtain⟨k,hk1,rfl⟩:=List.mem_map.1 hq;rw[bs_size];have:=hk k hk1
  omega)
 rw[List.length_map,List.map_map] at hmk;rw[show ((fun s:ByteArray=>s.data.toList) ∘ bs)=(id:L→L) from by funext l;exact bs_data l,List.map_id] at hmk;replace hmk:=Lib.hid hmk;go_wp2_with fail
 refine hmk.out.mono ?_;rintro r w1 ⟨rfl,hb1⟩;have hT1:=hTa.below hb1;obtain⟨s1,hs1⟩:∃s1,s1=s:=⟨_,rfl⟩;subst hs1;have hfll:=filterL_len s1.keys
 have hfn:filterN s1.keys.length≤1342177288:=by unfold filterN;omega
 obtain⟨vk,hvk⟩:∃q,q=Value.slice Ak s1.keys.length ck:=⟨_,rfl⟩;rw[←hvk] at hT1;obtain⟨fl,hfl⟩:∃fl,fl=filterL s1.keys:=⟨_,rfl⟩;rw[←hfl] at hfll ⊢;obtain⟨io,hio⟩:∃io,io=s1.index.outX:=⟨_,rfl⟩
 have hiol:io.length≤279172874244:=by rw[hio];have:=BB.outX_le s1.index;omega
 have hfls:=bs_size fl;have hios:=bs_size io;obtain⟨m,hm⟩:∃m,m=s1.at_+(bs fl).size:=⟨_,rfl⟩;have hmp:=Lib.hid (show ((s1.at_:Nat):Int)+((bs fl).size:Nat)=((m:Nat):Int) from by omega);have hmw:=Lib.hid (show wrap64 (((s1.at_:Nat):Int)+((bs fl).size:Nat))=((m:Nat):Int) from by unfold wrap64;omega);have hmw2:=Lib.hid (show IntKind.i64.wrap (((s1.at_:Nat):Int)+((bs fl).size:Nat))=((m:Nat):Int) from by rw[IntKind.wrap_i64];omega)
 have hb4:∀n,(bs (bigX n)).size≤4:=fun n=>by rw[bs_size];exact bigX_le n
 have hc1:=Lib.hid (show ¬9223372036854775807<(bs fl).size+(bs io).size from by omega);have hc2:=Lib.hid (show ¬9223372036854775807<(bs fl).size+(bs io).size+(bs (bigX s1.at_)).size from by have:=hb4 s1.at_;omega);have hc3:=Lib.hid (show ¬9223372036854775807<(bs fl).size+(bs io).size+(bs (bigX s1.at_)).size+(bs (bigX m)).size from by have:=hb4 s1.at_;have:=hb4 m;omega);have hc4:=Lib.hid (show ¬9223372036854775807<(bs fl).size+(bs io).size+(bs (bigX s1.at_)).size+(bs (bigX m)).size+(bs (bigX s1.t.count)).size from by have:=hb4 s1.at_;have:=hb4 m;have:=hb4 s1.t.count;omega);have hbig1:=Lib.hid (fun w=>big_x s1.at_ w (by omega));have hbig2:=Lib.hid (fun w=>big_x m w (by omega));have hbig3:=Lib.hid (fun w=>big_x s1.t.count w (by omega))
 have hfin:∀wx,Below w1.heap.size w1 wx→Calls Tryz.prog 127 #[.pointer (some ⟨g,12,none⟩)] wx (fun e w'=>e=.returned (.string (bs io))∧BBAt w' 0 g 159 12 (setBB (tbC s1 vb1 vs1 vb2 vs2 vk vp) 12 (.slice none 0 0) (.slice none 0 0) BB.new) BB.new (.slice none 0 0) (.slice none 0 0)∧KeptBut wx w' (BS g vb2 vs2)):=fun wx hb=>by
  rw[hio];exact BFinish_x (hT1.below hb).index (Nat.zero_le _) (by omega) (by omega) hi4 (by omega)
 replace hfin:=Lib.hid hfin;replace hfls:=Lib.hid hfls;replace hios:=Lib.hid hios;replace hm:=Lib.hid hm;replace hb4:=Lib.hid hb4;replace hio:=Lib.hid hio;replace hvk:=Lib.hid hvk;replace hfl:=Lib.hid hfl;replace hdn:=Lib.hid hdn;replace hd0:=Lib.hid hd0;clear c17 la c20 c2;go_wp2_with fail
 refine wp_region_task (fun d w'=>JF w1 g s1 vb1 vs1 vb2 vs2 vk vp (d 4) w') (tauL [some (.string (bs fl)),some (.pointer (some ⟨g,0,none⟩)),some (.pointer (some ⟨g,0,none⟩)),some (.pointer (some ⟨g,12,none⟩)),some (.string (bs io)),some (.string (bs fl++bs io)),some (.pointer (some ⟨g,0,none⟩)),some (.pointer (some ⟨g,0,none⟩)),some (.pointer (some ⟨g,19,none⟩)),some (.int .i64 (s1.at_:Nat)),some (.string (bs (bigX s1.at_))),some (.string ((bs fl++bs io)++bs (bigX s1.at_))),some (.pointer (some ⟨g,0,none⟩)),some (.pointer (some ⟨g,0,none⟩)),some (.pointer (some ⟨g,19,none⟩)),some (.int .i64 (s1.at_:Nat)),some (.string (bs fl)),some (.int .i64 ((bs fl).size:Nat)),some (.int .i64 (m:Nat)),some (.string (bs (bigX m))),some (.string (((bs fl++bs io)++bs (bigX s1.at_))++bs (bigX m))),some (.pointer (some ⟨g,0,none⟩)),some (.pointer (some ⟨g,0,none⟩)),some (.pointer (some ⟨g,0,none⟩)),some (.pointer (some ⟨g,2,none⟩)),some (.int .i64 (s1.t.count:Nat)),some (.string (bs (bigX s1.t.count))),some (.string ((((bs fl++bs io)++bs (bigX s1.at_))++bs (bigX m))++bs (bigX s1.t.count))),some (.string ((((bs fl++bs io)++bs (bigX s1.at_))++bs (bigX m))++bs (bigX s1.t.count)))] tauN) (usT (List.replicate 29 undef)) ?m1a ?m2a ?m3a ?m4a (Below.refl _ _).drew ?m5a ?m6a
 case m1a=>kernel_rfl
 case m2a=>kernel_rfl
 case m3a=>kernel_rfl
 case m4a=>kernel_rfl
 case m5a =>
  refine⟨?o0a,?o1a,?o2a,?o3a,?o4a,?o5a,?o6a,?o7a,?o8a,?o9a,?o10a,?o11a,?o12a,?o13a,?o14a,?o15a,?o16a,?o17a,?o18a,?o19a,?o20a,?o21a,?o22a,?o23a,?o24a,?o25a,?o26a,?o27a,?o28a,trivial⟩
  case o0a =>
   intro d us wx hd hJ hp hu hi;refine .inl ⟨by kernel_rfl,fun K Q hK=>?_⟩;simp only[putAll,Act.put,Nat.reduceAdd] at hK ⊢;go_simp;refine Eq.mp ?_ (hK (.string (bs fl)) _ hJ rfl (fun _ _ _ h=>h))
   kernel_rfl
  case o1a =>
   intro d us wx hd hJ hp hu hi;refine .inl ⟨by kernel_rfl,fun K Q hK=>?_⟩;simp only[putAll,Act.put,Nat.reduceAdd] at hK ⊢;go_simp;refine Eq.mp ?_ (hK (.pointer (some ⟨g,0,none⟩)) _ hJ rfl (fun _ _ _ h=>h))
   kernel_rfl
  case o2a =>
   intro d us wx hd hJ hp hu hi;have h1:us 1=_:=(hp 1 (by simp[Region.binds])).2;refine .inl ⟨by kernel_rfl,fun K Q hK=>?_⟩;simp only[putAll,Act.put,Nat.reduceAdd,h1] at hK ⊢;go_simp;refine Eq.mp ?_ (hK (.pointer (some ⟨g,0,none⟩)) _ hJ rfl (fun _ _ _ h=>h))
   kernel_rfl
  case o3a =>
   intro d us wx hd hJ hp hu hi;have h2:us 2=_:=(hp 2 (by simp[Region.binds])).2;refine .inl ⟨by kernel_rfl,fun K Q hK=>?_⟩;simp only[putAll,Act.put,Nat.reduceAdd,h2] at hK ⊢;go_simp;refine Eq.mp ?_ (hK (.pointer (some ⟨g,12,none⟩)) _ hJ rfl (fun _ _ _ h=>h))
   kernel_rfl
  case o4a =>
   intro d us wx hd hJ hp hu hi;have h3:us 3=_:=(hp 3 (by simp[Region.binds])).2;refine .inl ⟨by kernel_rfl,fun K Q hK=>?_⟩;simp only[putAll,Act.put,Nat.reduceAdd,h3] at hK ⊢;go_simp
   go_at_call 127
   refine (hfin.out wx (JF.of_false hd hJ)).mono ?_;rintro r w9 ⟨rfl,hI9,hk9⟩;refine Eq.mp ?_ (hK (.string (bs io)) w9 (JF.true_ (JF.of_false hd hJ) hI9 hk9) rfl (fun k u _ h=>tauL_any k u h))
   kernel_rfl
  case o5a =>
   intro d us wx hd hJ hp hu hi;have h0:us 0=_:=(hp 0 (by simp[Region.binds])).2;have h4:us 4=_:=(hp 4 (by simp[Region.binds])).2;refine .inl ⟨by kernel_rfl,fun K Q hK=>?_⟩;simp only[putAll,Act.put,Nat.reduceAdd,h0,h4] at hK ⊢;go_simp;rw[if_neg hc1.out];go_simp;refine Eq.mp ?_ (hK (.string (bs fl++bs io)) _ hJ rfl (fun _ _ _ h=>h))
   kernel_rfl
  case o6a =>
   intro d us wx hd hJ hp hu hi;refine .inl ⟨by kernel_rfl,fun K Q hK=>?_⟩;simp only[putAll,Act.put,Nat.reduceAdd] at hK ⊢;go_simp;refine Eq.mp ?_ (hK (.pointer (some ⟨g,0,none⟩)) _ hJ rfl (fun _ _ _ h=>h))
   kernel_rfl
  case o7a =>
   intro d us wx hd hJ hp hu hi;have h6:us 6=_:=(hp 6 (by simp[Region.binds])).2;refine .inl ⟨by kernel_rfl,fun K Q hK=>?_⟩;simp only[putAll,Act.put,Nat.reduceAdd,h6] at hK ⊢;go_simp;refine Eq.mp ?_ (hK (.pointer (some ⟨g,0,none⟩)) _ hJ rfl (fun _ _ _ h=>h))
   kernel_rfl
  case o8a =>
   intro d us wx hd hJ hp hu hi;have h7:us 7=_:=(hp 7 (by simp[Region.binds])).2;refine .inl ⟨by kernel_rfl,fun K Q hK=>?_⟩;simp only[putAll,Act.put,Nat.reduceAdd,h7] at hK ⊢;go_simp;refine Eq.mp ?_ (hK (.pointer (some ⟨g,19,none⟩)) _ hJ rfl (fun _ _ _ h=>h))
   kernel_rfl
  case o9a =>
   intro d us wx hd hJ hp hu hi;have h8:us 8=_:=(hp 8 (by simp[Region.binds])).2;have z0:=(JF.cell hT1 hJ).1;have l0:=(JF.cell hT1 hJ).2.2;refine .inl ⟨by kernel_rfl,fun K Q hK=>?_⟩;simp only[putAll,Act.put,Nat.reduceAdd,h8] at hK ⊢;go_simp;refine Eq.mp ?_ (hK (.int .i64 (s1.at_:Nat)) _ hJ rfl (fun _ _ _ h=>h))
   kernel_rfl
  case o10a =>
   intro d us wx hd hJ hp hu hi;have h9:us 9=_:=(hp 9 (by simp[Region.binds])).2;refine .inl ⟨by kernel_rfl,fun K Q hK=>?_⟩;simp only[putAll,Act.put,Nat.reduceAdd,h9] at hK ⊢;go_simp
   go_at_call 128
   refine (hbig1.out wx).mono ?_;rintro r w9 ⟨rfl,hb9⟩;refine Eq.mp ?_ (hK (.string (bs (bigX s1.at_))) w9 (hJ.below hb9) rfl (fun k u _ h=>tauL_any k u h))
   kernel_rfl
  case o11a =>
   intro d us wx hd hJ hp hu hi;have h5:us 5=_:=(hp 5 (by simp[Region.binds])).2;have h10:us 10=_:=(hp 10 (by simp[Region.binds])).2;refine .inl ⟨by kernel_rfl,fun K Q hK=>?_⟩;simp only[putAll,Act.put,Nat.reduceAdd,h5,h10] at hK ⊢;go_simp;rw[if_neg hc2.out];go_simp;refine Eq.mp ?_ (hK (.string ((bs fl++bs io)++bs (bigX s1.at_))) _ hJ rfl (fun _ _ _ h=>h))
   kernel_rfl
  case o12a =>
   intro d us wx hd hJ hp hu hi;refine .inl ⟨by kernel_rfl,fun K Q hK=>?_⟩;simp only[putAll,Act.put,Nat.reduceAdd] at hK ⊢;go_simp;refine Eq.mp ?_ (hK (.pointer (some ⟨g,0,none⟩)) _ hJ rfl (fun _ _ _ h=>h))
   kernel_rfl
  case o13a =>
   intro d us wx hd hJ hp hu hi;have h12:us 12=_:=(hp 12 (by simp[Region.binds])).2;refine .inl ⟨by kernel_rfl,fun K Q hK=>?_⟩;simp only[putAll,Act.put,Nat.reduceAdd,h12] at hK ⊢;go_simp;refine Eq.mp ?_ (hK (.pointer (some ⟨g,0,none⟩)) _ hJ rfl (fun _ _ _ h=>h))
   kernel_rfl
  case o14a =>
   intro d us wx hd hJ hp hu hi;have h13:us 13=_:=(hp 13 (by simp[Region.binds])).2;refine .inl ⟨by kernel_rfl,fun K Q hK=>?_⟩;simp only[putAll,Act.put,Nat.reduceAdd,h13] at hK ⊢;go_simp;refine Eq.mp ?_ (hK (.pointer (some ⟨g,19,none⟩)) _ hJ rfl (fun _ _ _ h=>h))
   kernel_rfl
  case o15a =>
   intro d us wx hd hJ hp hu hi;have h14:us 14=_:=(hp 14 (by simp[Region.binds])).2;have z0:=(JF.cell hT1 hJ).1;have l0:=(JF.cell hT1 hJ).2.2;refine .inl ⟨by kernel_rfl,fun K Q hK=>?_⟩;simp only[putAll,Act.put,Nat.reduceAdd,h14] at hK ⊢;go_simp;refine Eq.mp ?_ (hK (.int .i64 (s1.at_:Nat)) _ hJ rfl (fun _ _ _ h=>h))
   kernel_rfl
  case o16a =>
   intro d us wx hd hJ hp hu hi;refine .inl ⟨by kernel_rfl,fun K Q hK=>?_⟩;simp only[putAll,Act.put,Nat.reduceAdd] at hK ⊢;go_simp;refine Eq.mp ?_ (hK (.string (bs fl)) _ hJ rfl (fun _ _ _ h=>h))
   kernel_rfl
  case o17a =>
   intro d us wx hd hJ hp hu hi;have h16:us 16=_:=(hp 16 (by simp[Region.binds])).2;refine .inl ⟨by kernel_rfl,fun K Q hK=>?_⟩;simp only[putAll,Act.put,Nat.reduceAdd,h16] at hK ⊢;go_simp;refine Eq.mp ?_ (hK (.int .i64 ((bs fl).size:Nat)) _ hJ rfl (fun _ _ _ h=>h))
   kernel_rfl
  case o18a =>
   intro d us wx hd hJ hp hu hi;have h15:us 15=_:=(hp 15 (by simp[Region.binds])).2;have h17:us 17=_:=(hp 17 (by simp[Region.binds])).2;refine .inl ⟨by kernel_rfl,fun K Q hK=>?_⟩;simp only[putAll,Act.put,Nat.reduceAdd,h15,h17] at hK ⊢;go_simp
   (first | rw[hmw.out] | rw[hmw2.out] | rw[hmp.out])
   refine Eq.mp ?_ (hK (.int .i64 (m:Nat)) _ hJ rfl (fun _ _ _ h=>h))
   kernel_rfl
  case o19a =>
   intro d us wx hd hJ hp hu hi;have h18:us 18=_:=(hp 18 (by simp[Region.binds])).2;refine .inl ⟨by kernel_rfl,fun K Q hK=>?_⟩;simp only[putAll,Act.put,Nat.reduceAdd,h18] at hK ⊢;go_simp
   go_at_call 128
   refine (hbig2.out wx).mono ?_;rintro r w9 ⟨rfl,hb9⟩;refine Eq.mp ?_ (hK (.string (bs (bigX m))) w9 (hJ.below hb9) rfl (fun k u _ h=>tauL_any k u h))
   kernel_rfl
  case o20a =>
   intro d us wx hd hJ hp hu hi;have h11:us 11=_:=(hp 11 (by simp[Region.binds])).2;have h19:us 19=_:=(hp 19 (by simp[Region.binds])).2;refine .inl ⟨by kernel_rfl,fun K Q hK=>?_⟩;simp only[putAll,Act.put,Nat.reduceAdd,h11,h19] at hK ⊢;go_simp;rw[if_neg hc3.out];go_simp;refine Eq.mp ?_ (hK (.string (((bs fl++bs io)++bs (bigX s1.at_))++bs (bigX m))) _ hJ rfl (fun _ _ _ h=>h))
   kernel_rfl
  case o21a =>
   intro d us wx hd hJ hp hu hi;refine .inl ⟨by kernel_rfl,fun K Q hK=>?_⟩;simp only[putAll,Act.put,Nat.reduceAdd] at hK ⊢;go_simp;refine Eq.mp ?_ (hK (.pointer (some ⟨g,0,none⟩)) _ hJ rfl (fun _ _ _ h=>h))
   kernel_rfl
  case o22a =>
   intro d us wx hd hJ hp hu hi;have h21:us 21=_:=(hp 21 (by simp[Region.binds])).2;refine .inl ⟨by kernel_rfl,fun K Q hK=>?_⟩;simp only[putAll,Act.put,Nat.reduceAdd,h21] at hK ⊢;go_simp;refine Eq.mp ?_ (hK (.pointer (some ⟨g,0,none⟩)) _ hJ rfl (fun _ _ _ h=>h))
   kernel_rfl
  case o23a =>
   intro d us wx hd hJ hp hu hi;have h22:us 22=_:=(hp 22 (by simp[Region.binds])).2;refine .inl ⟨by kernel_rfl,fun K Q hK=>?_⟩;simp only[putAll,Act.put,Nat.reduceAdd,h22] at hK ⊢;go_simp;refine Eq.mp ?_ (hK (.pointer (some ⟨g,0,none⟩)) _ hJ rfl (fun _ _ _ h=>h))
   kernel_rfl
  case o24a =>
   intro d us wx hd hJ hp hu hi;have h23:us 23=_:=(hp 23 (by simp[Region.binds])).2;refine .inl ⟨by kernel_rfl,fun K Q hK=>?_⟩;simp only[putAll,Act.put,Nat.reduceAdd,h23] at hK ⊢;go_simp;refine Eq.mp ?_ (hK (.pointer (some ⟨g,2,none⟩)) _ hJ rfl (fun _ _ _ h=>h))
   kernel_rfl
  case o25a =>
   intro d us wx hd hJ hp hu hi;have h24:us 24=_:=(hp 24 (by simp[Region.binds])).2;have z0:=(JF.cell hT1 hJ).2.1;have l0:=(JF.cell hT1 hJ).2.2;refine .inl ⟨by kernel_rfl,fun K Q hK=>?_⟩;simp only[putAll,Act.put,Nat.reduceAdd,h24] at hK ⊢;go_simp;refine Eq.mp ?_ (hK (.int .i64 (s1.t.count:Nat)) _ hJ rfl (fun _ _ _ h=>h))
   kernel_rfl
  case o26a =>
   intro d us wx hd hJ hp hu hi;have h25:us 25=_:=(hp 25 (by simp[Region.binds])).2;refine .inl ⟨by kernel_rfl,fun K Q hK=>?_⟩;simp only[putAll,Act.put,Nat.reduceAdd,h25] at hK ⊢;go_simp
   go_at_call 128
   refine (hbig3.out wx).mono ?_;rintro r w9 ⟨rfl,hb9⟩;refine Eq.mp ?_ (hK (.string (bs (bigX s1.t.count))) w9 (hJ.below hb9) rfl (fun k u _ h=>tauL_any k u h))
   kernel_rfl
  case o27a =>
   intro d us wx hd hJ hp hu hi;have h20:us 20=_:=(hp 20 (by simp[Region.binds])).2;have h26:us 26=_:=(hp 26 (by simp[Region.binds])).2;refine .inl ⟨by kernel_rfl,fun K Q hK=>?_⟩;simp only[putAll,Act.put,Nat.reduceAdd,h20,h26] at hK ⊢;go_simp;rw[if_neg hc4.out];go_simp;refine Eq.mp ?_ (hK (.string ((((bs fl++bs io)++bs (bigX s1.at_))++bs (bigX m))++bs (bigX s1.t.count))) _ hJ rfl (fun _ _ _ h=>h))
   kernel_rfl
  case o28a =>
   intro d us wx hd hJ hp hu hi;have h27:us 27=_:=(hp 27 (by simp[Region.binds])).2;refine .inl ⟨by kernel_rfl,fun K Q hK=>?_⟩;simp only[putAll,Act.put,Nat.reduceAdd,h27] at hK ⊢;go_simp;refine Eq.mp ?_ (hK (.string ((((bs fl++bs io)++bs (bigX s1.at_))++bs (bigX m))++bs (bigX s1.t.count))) _ hJ rfl (fun _ _ _ h=>h))
   kernel_rfl
 intro d us w2 hJ hall;have q4:=(hall 4 (by simp)).1;have q28:us 28=_:=(hall 28 (by simp)).2;rw[q4] at hJ;simp only[putAll,Act.put,Nat.reduceAdd,q28];clear hall;obtain⟨hk2,hB2⟩:=hJ
 have hv5:(((bs fl++bs io)++bs (bigX s1.at_))++bs (bigX m))++bs (bigX s1.t.count)=bs (fl++io++bigX s1.at_++bigX m++bigX s1.t.count):=by simp only[bs_append]
 rw[hv5];obtain⟨t0,ht0⟩:∃t0,t0=fl++io++bigX s1.at_++bigX m++bigX s1.t.count:=⟨_,rfl⟩;rw[←ht0];obtain⟨Ap,cp,hvp⟩:=hT1.op.form;subst hvp;have c18:w2.cell? ⟨g,18,none⟩=some (.slice Ap s1.parts.length cp):=hB2.cell 18;have l2:=hB2.lt
 have ht0l:t0.length≤281857228832:=by rw[ht0];simp only[List.length_append];have:=bigX_le s1.at_;have:=bigX_le m;have:=bigX_le s1.t.count;omega
 have ho2:OwnS w2 0 (.slice Ap s1.parts.length cp) s1.parts:=own_kept hT1.op hk2 (fun k hk q=>by
  rcases q with q | q | q
  ·exact own_blk_ne hT1.op hT1.blk (by decide) (by rw[hk,q])
  ·exact own_types hT1.op hT1.o2 (by decide) k hk q
  ·exact own_types hT1.op hT1.p2 (by decide) k hk q)
 have hownx:=World.ownsRow.alloc ho2 (.cells #[.string (bs t0)] 9);have hrd:=new_str w2 (bs t0) 9
 have hone:∀u∈[Value.string (bs t0)],u.oneCell'=true:=by
  intro u hu;simp at hu;subst hu;rfl
 have hGw1:Gl w1:=hGa.below hb1 hGa.lt
 have hG2:Gl w2:=hGw1.kept hk2 (fun q=>hG0 (hF 1 (q.elim .inl (fun q=>q.elim (fun q=>.inr (.inr (.inr (.inl q)))) (fun q=>.inr (.inr (.inr (.inr (.inl q)))))))))
  (fun q=>hG1 (hF 4 (q.elim .inl (fun q=>q.elim (fun q=>.inr (.inr (.inr (.inl q)))) (fun q=>.inr (.inr (.inr (.inr (.inl q)))))))))
 have hnv0:(Value.slice Ap s1.parts.length cp).ownBlock≠some 1:=fun q=>hG0 (hF 1 (.inr (.inr (.inr (.inr (.inr (.inr q)))))));have hnv1:(Value.slice Ap s1.parts.length cp).ownBlock≠some 4:=fun q=>hG1 (hF 4 (.inr (.inr (.inr (.inr (.inr (.inr q)))))));replace hone:=Lib.hid hone;replace hv5:=Lib.hid hv5;replace ht0:=Lib.hid ht0;replace hG2:=Lib.hid hG2;replace hGw1:=Lib.hid hGw1;obtain⟨i0,hi0,hz0,hz1,hz2⟩:=info_parts string_info
 go_wp2_with (at_builtin;refine wpList_append_any _ rfl (.tmp 70) (.tmp 72) 38 rfl 0 9 i0 (.string ⟨#[]⟩) 1 16 Tryz.underlying38 hi0 hz0 hz1 hz2 rfl (by omega) (.slice Ap s1.parts.length cp) s1.parts.length (s1.parts.map strV) rfl hownx (w2.heap.size+1) (some ⟨w2.heap.size,0,none⟩) 1 1 [.string (bs t0)] rfl hrd hone.out (by unfold maxLen;omega) (by omega) (Nat.zero_le _) ?_;intro v3 w3 hown3 hgr3 hat3;have ho3:=OwnS.of_law hown3;obtain⟨A3,c3,e3⟩:=ho3.form;rw[List.length_append,List.length_singleton] at e3;subst e3)
 have hk3:KeptBut w2 w3 (fun k=>(Value.slice Ap s1.parts.length cp).ownBlock=some k):=(KeptBut.of_below ((Below.refl _ _).alloc (Nat.le_refl _) _)).then_grown hgr3 (fun k q=>q)
 have hG3:=hG2.out.kept hk3 hnv0 hnv1
 have hcrc:=Crc_any hG3.tab A3 ((s1.parts++[t0]).map bs) c3 (by
  have hq:World.ownsRow w3 0 9 1 (.slice A3 (s1.parts.length+1) c3) (s1.parts.length+1) ((s1.parts++[t0]).map strV):=by
   have:=ho3;unfold OwnS at this
   rwa [List.length_append,List.length_singleton] at this
  have:=Reads.of_own hq;rw[List.length_map,List.map_map,List.length_append,List.length_singleton]
  exact this) (by rw[List.length_map,List.length_append,List.length_singleton];omega) (fun q hq=>by
  obtain⟨k,hk1,rfl⟩:=List.mem_map.1 hq;rw[bs_size];rcases List.mem_append.1 hk1 with hk1 | hk1
  ·have:=hps k hk1;omega
  ·simp at hk1;rw[hk1]
   omega)
 rw[List.length_map,List.length_append,List.length_singleton] at hcrc
 rw[show (((s1.parts++[t0]).map bs).flatMap fun s:ByteArray=>s.data.toList)=(s1.parts++[t0]).flatten from by rw[List.flatMap_map];simp only[bs_data];first | exact List.flatMap_id | simp] at hcrc
 have hcl:=crcL_lt (s1.parts++[t0]).flatten
 generalize hcc:crcL (s1.parts++[t0]).flatten=crc at *
 have hbig4:=Lib.hid (fun w=>big_any crc w hcl);replace hcrc:=Lib.hid hcrc;replace hcc:=Lib.hid hcc;have hts:=bs_size t0
 have hc5:(bs t0).size+(bs (bigL crc 4)).size≤9223372036854775807:=by rw[bs_size,bs_size,bigL_len];omega
 replace hts:=Lib.hid hts;have hBl:Blk w3 g 159 _:=hB2.keptB hk3 (own_blk_ne ho2 hB2 (by decide));go_wp2_with fail
 refine hcrc.out.mono ?_;rintro r w4 ⟨rfl,hb4'⟩;go_wp2_with fail
 refine (hbig4.out w4).mono ?_;rintro r w5 ⟨rfl,hb5⟩;have hB5:=(hBl.below hb4' hBl.lt).below hb5 (by have:=hBl.lt;have:=hb4'.size;omega);have y19:w5.cell? ⟨g,19,none⟩=some (.int .i64 (s1.at_:Nat)):=hB5.cell 19;have y3:w5.cell? ⟨g,3,none⟩=some (.int .i64 (s1.t.size:Nat)):=hB5.cell 3;have f3:=hB5.frozen 3
 have y20:w5.cell? ⟨g,20,none⟩=some (.bool s1.done):=hB5.cell 20
 have f20:=hB5.frozen 20;have l5:=hB5.lt;clear c18
 have hge:w.heap.size≠g:=by omega
 have hR0:=hRa.below hb1 hza
 have hR2:=hR0.keptB hk2 (fun q=>by
  rcases q with q | q | q
  ·exact hge q
  ·exact own_blk_ne hT1.o2 hR0 (by decide) q
  ·exact own_blk_ne hT1.p2 hR0 (by decide) q)
 have hR3:=hR2.keptB hk3 (own_blk_ne ho2 hR2 (by decide));have hR5:=(hR3.below hb4' hR3.lt).below hb5 (by have:=hR3.lt;have:=hb4'.size;omega);obtain⟨sz,hsz⟩:∃sz,sz=s1.at_+(t0.length+4):=⟨_,rfl⟩
 have hszw:wrap64 (((s1.at_:Nat):Int)+(((bs t0).size:Nat)+((bs (bigL crc 4)).size:Nat)))=((sz:Nat):Int):=by
  rw[bs_size,bs_size,bigL_len];unfold wrap64;omega
 replace hsz:=Lib.hid hsz
 have hs0:(0:Nat)+((bs t0).size+(bs (bigL crc 4)).size)≤9223372036854775807:=by omega
 replace hR5:=Lib.hid hR5;replace hB5:=Lib.hid hB5;go_wp2_with fail
 have hB6:Blk ((w5.setCell ⟨g,3,none⟩ (.int .i64 (sz:Nat))).setCell ⟨g,20,none⟩ (.bool true)) g 159 (tbC { s1 with index:=BB.new,t:={ s1.t with size:=sz },done:=true } vb1 vs1 (.slice none 0 0) (.slice none 0 0) vk (.slice Ap s1.parts.length cp)):=(hB5.out.set_ 3 (.int .i64 (sz:Nat))).set_ 20 (.bool true)
 have hR6:=(hR5.out.far (p:=⟨g,3,none⟩) (by show w.heap.size≠g;exact hge) (.int .i64 (sz:Nat))).far (p:=⟨g,20,none⟩) (by show w.heap.size≠g;exact hge) (.bool true)
 generalize hw6:(w5.setCell ⟨g,3,none⟩ (.int .i64 (sz:Nat))).setCell ⟨g,20,none⟩ (.bool true)=w6 at *
 replace hw6:=Lib.hid hw6;have z0:w6.cell? ⟨g,0,none⟩=some (.int .u64 (s1.t.n:Nat)):=hB6.cell 0;have z1:w6.cell? ⟨g,1,none⟩=some (.int .i64 s1.t.level):=hB6.cell 1;have z2:w6.cell? ⟨g,2,none⟩=some (.int .i64 (s1.t.count:Nat)):=hB6.cell 2;have z3:w6.cell? ⟨g,3,none⟩=some (.int .i64 (sz:Nat)):=hB6.cell 3
 have z4:w6.cell? ⟨g,4,none⟩=some (.string (bs s1.t.first)):=hB6.cell 4
 have z5:w6.cell? ⟨g,5,none⟩=some (.string (bs s1.t.last)):=hB6.cell 5;have z6:w6.cell? ⟨g,6,none⟩=some (.int .u64 (s1.t.least:Nat)):=hB6.cell 6;have z7:w6.cell? ⟨g,7,none⟩=some (.int .u64 (s1.t.most:Nat)):=hB6.cell 7;have l6:=hB6.lt;clear y19 y3 f3 y20 f20 l5;have hxc:=@Ext.cell;have hxf:=@Ext.frozen;refine wp_hide (fun Q0 hQ0=>?_);refine wp_region_line (fun w'=>∃x:Ext _,w'=x.w) [some false,some false,some false,some false,some false,some false,some false,some false,none,none] 0 (by kernel_rfl) (by kernel_rfl) ⟨⟨_,(Below.refl _ _).drew⟩,rfl⟩ ?_;simp only[earlyL,tailL]
 repeat (first | ((with_reducible refine wpMix_p ?_);go_big_quiet_step (fail);refine wpQuiet_nil ?_) | ((with_reducible refine wpMix_e ?_);go_big_quiet_step ((first | fail));refine wpQuiet_nil ?_))
 refine wpMix_nil ?_;clear hxc hxf;intro wx hwx;obtain⟨x,hx⟩:=hwx;have hb:=x.below;rw[←hx] at hb;clear hx x;have hRx:=hR6.below hb hR6.lt;have x0:=hRx.cell 0;have x1:=hRx.cell 1;have x2:=hRx.cell 2;have x3:=hRx.cell 3;have x4:=hRx.cell 4;have x5:=hRx.cell 5;have x6:=hRx.cell 6;have x7:=hRx.cell 7;have u0:=hRx.frozen 0;have u1:=hRx.frozen 1;have u2:=hRx.frozen 2;have u3:=hRx.frozen 3;have u4:=hRx.frozen 4;have u5:=hRx.frozen 5;have u6:=hRx.frozen 6;have u7:=hRx.frozen 7;have ul:=hRx.lt;simp only[List.getElem?_toArray,List.getElem?_cons_zero,List.getElem?_cons_succ] at x0 x1 x2 x3 x4 x5 x6 x7;clear z0 z1 z2 z3 z4 z5 z6 z7
 have htl:s1.tail=t0++bigL crc 4:=by
  have e0:s1.tail0=t0:=by
   unfold TB.tail0;rw[ht0.out,hm.out,hfls.out,hio.out,hfl.out]
  unfold TB.tail;rw[e0,hcc.out]
 have hszt:s1.at_+s1.tail.length=sz:=by rw[htl,List.length_append,bigL_len];exact hsz.out.symm
 have hsbs:((⟨#[]⟩:ByteArray)++(bs t0++bs (bigL crc 4)))=bs s1.tail:=by rw[htl,bs_append];rw[show (⟨#[]⟩:ByteArray)=bs [] from rfl,bs_append];rfl
 have hBfin:=hB6.below hb hB6.lt;have hfinR:=ti_set hRx { s1.t with size:=sz }
 have hKw1:KeptBut w w1 F:=hKa.then_below hb1
 have hK2:=hKw1.trans hk2 (fun k _ q=>hF k (q.elim .inl (fun q=>q.elim (fun q=>.inr (.inr (.inr (.inl q)))) (fun q=>.inr (.inr (.inr (.inr (.inl q))))))));have hK3:=hK2.trans hk3 (fun k _ q=>hF k (.inr (.inr (.inr (.inr (.inr (.inr q)))))))
 have hK5:=(hK3.then_below hb4').then_below hb5
 have hK6:KeptBut w w6 F:=by
  rw[←hw6.out]
  exact (hK5.then_set (hF g (.inl rfl))).then_set (hF g (.inl rfl))
 have hKx:=hK6.then_below hb
 have hKf:=(((((((hKx.then_new (o:=0) (v:=.int .u64 (s1.t.n:Nat)) (Nat.le_refl _)).then_new (o:=1) (v:=.int .i64 s1.t.level) (Nat.le_refl _)).then_new (o:=2) (v:=.int .i64 (s1.t.count:Nat)) (Nat.le_refl _)).then_new (o:=3) (v:=.int .i64 (sz:Nat)) (Nat.le_refl _)).then_new (o:=4) (v:=.string (bs s1.t.first)) (Nat.le_refl _)).then_new (o:=5) (v:=.string (bs s1.t.last)) (Nat.le_refl _)).then_new (o:=6) (v:=.int .u64 (s1.t.least:Nat)) (Nat.le_refl _)).then_new (o:=7) (v:=.int .u64 (s1.t.most:Nat)) (Nat.le_refl _)
 have hBf2:=(((((((hBfin.far (p:=⟨w.heap.size,0,none⟩) (fun q=>hge q.symm) (.int .u64 (s1.t.n:Nat))).far (p:=⟨w.heap.size,1,none⟩) (fun q=>hge q.symm) (.int .i64 s1.t.level)).far (p:=⟨w.heap.size,2,none⟩) (fun q=>hge q.symm) (.int .i64 (s1.t.count:Nat))).far (p:=⟨w.heap.size,3,none⟩) (fun q=>hge q.symm) (.int .i64 (sz:Nat))).far (p:=⟨w.heap.size,4,none⟩) (fun q=>hge q.symm) (.string (bs s1.t.first))).far (p:=⟨w.heap.size,5,none⟩) (fun q=>hge q.symm) (.string (bs s1.t.last))).far (p:=⟨w.heap.size,6,none⟩) (fun q=>hge q.symm) (.int .u64 (s1.t.least:Nat))).far (p:=⟨w.heap.size,7,none⟩) (fun q=>hge q.symm) (.int .u64 (s1.t.most:Nat))
 replace htl:=Lib.hid htl;replace hszt:=Lib.hid hszt;replace hsbs:=Lib.hid hsbs;replace hfinR:=Lib.hid hfinR;replace hKf:=Lib.hid hKf;replace hBf2:=Lib.hid hBf2;clear hBfin hKw1 hK2 hK3 hK5 hK6 hKx;refine wpTail_step ?_;intro Q1 hQ1
 go_wp2_with (fail)
 refine hQ1 _ _ rfl (fun h=>absurd h (by decide)) ?_;clear hQ1 Q1;refine wpTail_step ?_;intro Q1 hQ1
 go_wp2_with (fail)
 refine hQ1 _ _ rfl (fun h=>absurd h (by decide)) ?_;clear hQ1 Q1;refine wpTail_nil ?_;refine hQ0 _ _ ?_;clear hQ0 Q0;go_wp2_with fail
 rw[hsbs.out];refine bodyPost_ret (v:=.tuple #[.string (bs s1.tail),.agg (tiC { s1.t with size:=sz }),.int .i64 0]) (results_tct rfl _ _ w.heap.size _ _ _ rfl rfl rfl (load_ti hfinR.out rfl)) rfl ⟨by rw[hszt.out],?_,hKf.out⟩;rw[hszt.out];exact⟨_,_,_,_,_,_,hBf2.out⟩
end Go.Proofs.YtlpojfgeocpkeaaGreatDoor
