/- Contracts of package job: Step of a job that is over, done, or without power; Drop; New; Used, Room. Contracts of package job: Files, Tables. Contracts of the law: few. A disk's files by their names, plain: what each operation leaves of them. No program in sight. -/
import Derived.Test.YtlpojfgeocpkeaaGreatDoorJN16J
import Derived.Test.YtlpojfgeocpkeaaGreatDoorV07
namespace Go.Proofs.YtlpojfgeocpkeaaGreatDoor
open Go.RowKit Go.Sort
set_option linter.unusedVariables false
set_option linter.unusedSimpArgs false
theorem Used_dx {X:Nat→Prop}{w:World}{d:Nat}{s:Dsk}{m:Nat}(h:Dx X w d s)(g:s.Good m)(hm:m<1073741824):Calls Tryz.prog 13 #[.pointer (some ⟨d,0,none⟩)] w fun e w'=>e=.returned (.int .i64 (s.used:Nat))∧Below w.heap.size w w':=by
 obtain⟨F,L,hL,hF⟩:=h;have h1:=g.names;exact Used_any hL g.ok (by omega)
set_option maxRecDepth 100000 in
set_option maxHeartbeats 1000000 in
theorem Room_dx {X:Nat→Prop}{w:World}{d:Nat}{s:Dsk}(h:Dx X w d s):Calls Tryz.prog 17 #[.pointer (some ⟨d,0,none⟩)] w fun e w'=>e=.returned (.int .i64 (s.room:Nat))∧w=w':=by
 obtain⟨F,L,hL,hF⟩:=h;have hn:=none_any hL;have c0:w.cell? ⟨d,0,none⟩=some (.int .i64 s.room):=hL.box.cell 0;have hdl:=hL.lt;replace hn:=Lib.hid hn;replace hL:=Lib.hid hL
 go_enter Tryz.func17,Tryz.ntmps17
 go_wp2_with fail
 refine hn.out.mono ?_;rintro e w' ⟨rfl,rfl⟩;go_wp2_with fail
 go_ret
 exact⟨rfl,rfl⟩
section
variable {K:Nat→Prop}{w w':World}{g d:Nat}{s s':Dsk}{n:Nat}{lv:Int}{vl:Value}{os:List EL}{J:JW}{done over dead:Bool}{ok:Prop}
theorem JRun.rebox (h:JRun K w g d s n lv vl os J done over dead ok)(hk:KeptBut w w' (fun k=>k=g)){done' over' dead':Bool}
  (hB:∀gb vt vf,Blk w g 88 (jobC (.pointer (some ⟨d,0,none⟩)) lv n vl J.li J.en gb vt vf done over dead)→Blk w' g 88 (jobC (.pointer (some ⟨d,0,none⟩)) lv n vl J.li J.en gb vt vf done' over' dead')):JRun K w' g d s n lv vl os J done' over' dead' ok∧Keeps K w w':=by
 obtain⟨F,gb,vt,vf,h1,h2⟩:=h;have hz:=hk.size;refine⟨⟨F,gb,vt,vf,⟨h1.dx.beside hk (fun k q=>.inl (.inr (.inl (.inl q)))),fun k q=>⟨by have:=(h1.kl k q).1;omega,(h1.kl k q).2⟩,fun k q=>⟨by have:=(h1.fl k q).1;omega,(h1.fl k q).2⟩,hB _ _ _ h1.box,own_kept h1.tabs hk ?_,own_kept h1.files hk ?_⟩,fun q q2 x hx=>?_⟩,h1.keeps hk (fun k q=>.inl (.inl q))⟩
 ·intro k hk e;exact own_blk_ne h1.tabs h1.box (by decide) (by rw[hk,e])
 ·intro k hk e;exact own_blk_ne h1.files h1.box (by decide) (by rw[hk,e])
 ·obtain⟨a,e,hT⟩:=h2 q q2 x hx;exact⟨a,e,hT.kept hk (fun k q e=>(h1.fl k q).2 (.inl e))⟩
theorem JRun.dx_ (h:JRun K w g d s n lv vl os J done over dead ok):Dx K w d s:=by
 obtain⟨F,gb,vt,vf,h1,h2⟩:=h;exact h1.dx.less (fun k _ q=>.inl q)
set_option maxRecDepth 100000 in
set_option maxHeartbeats 4000000 in
theorem Step_over (h:JRun K w g d s n lv vl os J done true false ok)(ho:s.off=false) :
  Calls Tryz.prog 15 #[.pointer (some ⟨g,0,none⟩)] w fun e w'=>e=.returned (.tuple #[.bool false,.int .i64 9])∧Keeps K w w'∧JRun K w' g d s n lv vl os J done true false ok:=by
 have hmf:∀(fn:Fn) (first cap:Array Value) (w:World),(Instr.makeFunc fn first cap).run Tryz.prog w=.ok (.func fn first cap) w:=fun _ _ _ _=>rfl
 obtain⟨B,hB⟩:∃b,w.heap.size=b:=⟨_,rfl⟩;have bJ0:=Blk.new w 32 #[.pointer (some ⟨g,0,none⟩)];have bl0:Below w.heap.size w (w.alloc (.cells #[.pointer (some ⟨g,0,none⟩)] 32)):=(Below.refl _ _).alloc (Nat.le_refl _) _
 have z0:(w.alloc (.cells #[.pointer (some ⟨g,0,none⟩)] 32)).heap.size=B+1:=by rw[←hB];simp
 obtain⟨wa,hwa⟩:∃x,w.alloc (.cells #[.pointer (some ⟨g,0,none⟩)] 32)=x:=⟨_,rfl⟩;rw[hwa] at bJ0 bl0 z0;have bD0:=Blk.new wa 4 #[.bool false];have bl1:Below wa.heap.size wa (wa.alloc (.cells #[.bool false] 4)):=(Below.refl _ _).alloc (Nat.le_refl _) _
 have z1:(wa.alloc (.cells #[.bool false] 4)).heap.size=B+1+1:=by rw[←z0];simp
 obtain⟨wb,hwb⟩:∃x,wa.alloc (.cells #[.bool false] 4)=x:=⟨_,rfl⟩;rw[hwb] at bD0 bl1 z1;have bE0:=Blk.new wb 28 #[.int .i64 0];have bl2:Below wb.heap.size wb (wb.alloc (.cells #[.int .i64 0] 28)):=(Below.refl _ _).alloc (Nat.le_refl _) _
 have z2:(wb.alloc (.cells #[.int .i64 0] 28)).heap.size=B+1+1+1:=by rw[←z1];simp
 obtain⟨w0,hw0⟩:∃x,wb.alloc (.cells #[.int .i64 0] 28)=x:=⟨_,rfl⟩;rw[hw0] at bE0 bl2 z2;rw[hB] at bJ0;rw[z0] at bD0;rw[z1] at bE0;have bD:=bD0.below bl2 bD0.lt;have bJ:=(bJ0.below bl1 bJ0.lt).below bl2 (by rw[z1];omega);have bE:=bE0;have hA:Below w.heap.size w w0:=bl0.trans ((bl1.mono (by omega)).trans (bl2.mono (by omega)));clear bD0 bJ0 bE0 bl0 bl1 bl2
 have hB3:B+1+1<w0.heap.size:=by omega
 obtain⟨h2,hK⟩:=h.below hA;obtain⟨F0,gb0,vt0,vf0,hA0⟩:=h2.out_;have hoff:=Lib.hid (off_on hA0.dx hA0.box ho);have c0:w0.cell? ⟨B,0,none⟩=some (.pointer (some ⟨g,0,none⟩)):=bJ.cell 0
 have c9:w0.cell? ⟨g,9,none⟩=some (.bool done):=hA0.box.cell 9
 have c10:w0.cell? ⟨g,10,none⟩=some (.bool true):=hA0.box.cell 10;have cl:=hA0.box.lt;have d1:=bD.frozen 0;have d2:=bE.frozen 0;have e1:w0.cell? ⟨B+1,0,none⟩=some (.bool false):=bD.cell 0;have e2:w0.cell? ⟨B+1+1,0,none⟩=some (.int .i64 0):=bE.cell 0;have b3:Blk (w0.setCell ⟨B+1,0,none⟩ (.bool false)) (B+1) 4 #[.bool false]:=bD.set_ 0 (.bool false);have b4:Blk (w0.setCell ⟨B+1,0,none⟩ (.bool false)) (B+1+1) 28 #[.int .i64 0]:=bE.far (by show B+1+1≠B+1;omega) _;have b5:Blk ((w0.setCell ⟨B+1,0,none⟩ (.bool false)).setCell ⟨B+1+1,0,none⟩ (.int .i64 9)) (B+1+1) 28 #[.int .i64 9]:=b4.set_ 0 (.int .i64 9);have b6:Blk ((w0.setCell ⟨B+1,0,none⟩ (.bool false)).setCell ⟨B+1+1,0,none⟩ (.int .i64 9)) (B+1) 4 #[.bool false]:=b3.far (by show B+1≠B+1+1;omega) _;have hlt:=h.lt;have hbb:Below w.heap.size w ((w0.setCell ⟨B+1,0,none⟩ (.bool false)).setCell ⟨B+1+1,0,none⟩ (.int .i64 9)):=(hA.setCell (by show _≤B+1;omega) _).setCell (by show _≤B+1+1;omega) _;obtain⟨h3,hK3⟩:=h.below hbb;clear hA0 b3 b4 hbb h2 hK;replace h:=Lib.hid h;replace h3:=Lib.hid h3;replace hK3:=Lib.hid hK3;replace b5:=Lib.hid b5;replace b6:=Lib.hid b6;replace bJ:=Lib.hid bJ;replace bD:=Lib.hid bD;replace bE:=Lib.hid bE;replace hA:=Lib.hid hA;have hza:=Lib.hid z0;have hzb:=Lib.hid z1;clear z0 z1 z2
 go_enter_defers Tryz.func15,Tryz.ntmps15
 go_wp2_with fail
 rw[hza.out,hzb.out];clear hwa hwb hw0;refine hoff.out.mono ?_;clear hoff;rintro e w' ⟨rfl,rfl⟩;go_wp2_with fail
 exact⟨_,results_two_cells rfl _ _ (B+1) (B+1+1) _ _ rfl rfl (load_bool (b6.out.cell 0)) (load_errno (b5.out.cell 0)),rfl,hK3.out,h3.out⟩
set_option maxRecDepth 100000 in
set_option maxHeartbeats 4000000 in
theorem Step_off (h:JRun K w g d s n lv vl os J done over dead ok)(ho:dead=true∨s.off=true) :
  Calls Tryz.prog 15 #[.pointer (some ⟨g,0,none⟩)] w fun e w'=>e=.returned (.tuple #[.bool false,.int .i64 7])∧Keeps K w w'∧JRun K w' g d s n lv vl os J done over true ok:=by
 have hmf:∀(fn:Fn) (first cap:Array Value) (w:World),(Instr.makeFunc fn first cap).run Tryz.prog w=.ok (.func fn first cap) w:=fun _ _ _ _=>rfl
 obtain⟨B,hB⟩:∃b,w.heap.size=b:=⟨_,rfl⟩;have bJ0:=Blk.new w 32 #[.pointer (some ⟨g,0,none⟩)];have bl0:Below w.heap.size w (w.alloc (.cells #[.pointer (some ⟨g,0,none⟩)] 32)):=(Below.refl _ _).alloc (Nat.le_refl _) _
 have z0:(w.alloc (.cells #[.pointer (some ⟨g,0,none⟩)] 32)).heap.size=B+1:=by rw[←hB];simp
 obtain⟨wa,hwa⟩:∃x,w.alloc (.cells #[.pointer (some ⟨g,0,none⟩)] 32)=x:=⟨_,rfl⟩;rw[hwa] at bJ0 bl0 z0;have bD0:=Blk.new wa 4 #[.bool false];have bl1:Below wa.heap.size wa (wa.alloc (.cells #[.bool false] 4)):=(Below.refl _ _).alloc (Nat.le_refl _) _
 have z1:(wa.alloc (.cells #[.bool false] 4)).heap.size=B+1+1:=by rw[←z0];simp
 obtain⟨wb,hwb⟩:∃x,wa.alloc (.cells #[.bool false] 4)=x:=⟨_,rfl⟩;rw[hwb] at bD0 bl1 z1;have bE0:=Blk.new wb 28 #[.int .i64 0];have bl2:Below wb.heap.size wb (wb.alloc (.cells #[.int .i64 0] 28)):=(Below.refl _ _).alloc (Nat.le_refl _) _
 have z2:(wb.alloc (.cells #[.int .i64 0] 28)).heap.size=B+1+1+1:=by rw[←z1];simp
 obtain⟨w0,hw0⟩:∃x,wb.alloc (.cells #[.int .i64 0] 28)=x:=⟨_,rfl⟩;rw[hw0] at bE0 bl2 z2;rw[hB] at bJ0;rw[z0] at bD0;rw[z1] at bE0;have bD:=bD0.below bl2 bD0.lt;have bJ:=(bJ0.below bl1 bJ0.lt).below bl2 (by rw[z1];omega);have bE:=bE0;have hA:Below w.heap.size w w0:=bl0.trans ((bl1.mono (by omega)).trans (bl2.mono (by omega)));clear bD0 bJ0 bE0 bl0 bl1 bl2
 have hB3:B+1+1<w0.heap.size:=by omega
 obtain⟨h2,hK⟩:=h.below hA;obtain⟨F0,gb0,vt0,vf0,hA0⟩:=h2.out_;have hoff:=Lib.hid (off_off hA0.dx hA0.box ho);have c0:w0.cell? ⟨B,0,none⟩=some (.pointer (some ⟨g,0,none⟩)):=bJ.cell 0;have cl:=hA0.box.lt;have hbx:=Lib.hid hA0.box
 have hgB:g<B:=by have:=h.glt;omega
 clear hA0;have hlt:=h.lt;replace h:=Lib.hid h;replace h2:=Lib.hid h2;replace hK:=Lib.hid hK;replace bJ:=Lib.hid bJ;replace bD:=Lib.hid bD;replace bE:=Lib.hid bE;replace hA:=Lib.hid hA;have hza:=Lib.hid z0;have hzb:=Lib.hid z1;clear z0 z1 z2
 go_enter_defers Tryz.func15,Tryz.ntmps15
 go_wp2_with fail
 rw[hza.out,hzb.out];clear hwa hwb hw0;refine hoff.out.mono ?_;clear hoff;rintro e w' ⟨rfl,hB2,hk2⟩;have bD2:=bD.out.keptB hk2 (by omega);have bE2:=bE.out.keptB hk2 (by omega);have d1:=bD2.frozen 0;have d2:=bE2.frozen 0;have e1:w'.cell? ⟨B+1,0,none⟩=some (.bool false):=bD2.cell 0;have e2:w'.cell? ⟨B+1+1,0,none⟩=some (.int .i64 0):=bE2.cell 0;have hz2:=hk2.size
 have hB4:B+1+1<w'.heap.size:=by omega
 have b3:Blk (w'.setCell ⟨B+1,0,none⟩ (.bool false)) (B+1) 4 #[.bool false]:=bD2.set_ 0 (.bool false);have b4:Blk (w'.setCell ⟨B+1,0,none⟩ (.bool false)) (B+1+1) 28 #[.int .i64 0]:=bE2.far (by show B+1+1≠B+1;omega) _;have b5:Blk ((w'.setCell ⟨B+1,0,none⟩ (.bool false)).setCell ⟨B+1+1,0,none⟩ (.int .i64 7)) (B+1+1) 28 #[.int .i64 7]:=b4.set_ 0 (.int .i64 7);have b6:Blk ((w'.setCell ⟨B+1,0,none⟩ (.bool false)).setCell ⟨B+1+1,0,none⟩ (.int .i64 7)) (B+1) 4 #[.bool false]:=b3.far (by show B+1≠B+1+1;omega) _
 have hB3:Blk ((w'.setCell ⟨B+1,0,none⟩ (.bool false)).setCell ⟨B+1+1,0,none⟩ (.int .i64 7)) g 88 (jobC (.pointer (some ⟨d,0,none⟩)) lv n vl J.li J.en gb0 vt0 vf0 done over true):=(hB2.far (by show g≠B+1;omega) _).far (by show g≠B+1+1;omega) _
 have hkk:KeptBut w ((w'.setCell ⟨B+1,0,none⟩ (.bool false)).setCell ⟨B+1+1,0,none⟩ (.int .i64 7)) (fun k=>k=g):=((((KeptBut.of_below hA.out (S:=fun k=>k=g∨B≤k)).trans hk2 (fun k _ q=>.inl q)).then_set (.inr (by omega))).then_set (.inr (by omega))).mono (fun k q1 q2=>by
  rcases q2 with q2 | q2
  ·exact q2
  ·omega)
 obtain⟨h3,hK3⟩:=h.out.rebox (done':=done) (over':=over) (dead':=true) hkk (fun gb vt vf hbb=>by
  have e1:=(hbb.below hA.out hbb.lt).symm.trans hbx.out;injection e1 with e1;injection e1 with e1;unfold jobC at e1 hB3 ⊢;simp only[Array.mk.injEq,List.cons.injEq,Value.pointer.injEq,true_and,and_true] at e1;obtain⟨q1,q2,q3⟩:=e1;rw[q1,q2,q3]
  exact hB3)
 replace h3:=Lib.hid h3;replace hK3:=Lib.hid hK3;replace b5:=Lib.hid b5;replace b6:=Lib.hid b6;clear hB3 hkk b3 b4 hB2 hk2 bD2 bE2;go_wp2_with fail
 exact⟨_,results_two_cells rfl _ _ (B+1) (B+1+1) _ _ rfl rfl (load_bool (b6.out.cell 0)) (load_errno (b5.out.cell 0)),rfl,hK3.out,h3.out⟩
theorem Drop_run {ls:List (List Ent)}{m:Nat}(h:JRun K w g d s n lv vl os J done over false ok)(hfs:J.fs.length≤6)(hnm:∀f∈J.fs,f.length≤40)(gd:s.Good m)(hm:m<100000)(ho:s.off=false) :
  Calls Tryz.prog 16 #[.pointer (some ⟨g,0,none⟩)] w fun e w'=>e=.returned (.int .i64 ((if (delsE J.fs s).2 then 7 else 0:Nat):Int))∧Keeps K w w' ∧
   (if (delsE J.fs s).2 then JRun K w' g d (delsE J.fs s).1 n lv vl os J done over true False else JRun K w' g d (delsE J.fs s).1 n lv vl os ⟨J.li,J.en,[],[]⟩ done true false False):=by
 obtain⟨F,gb,vt,vf,h1,h2⟩:=h;refine (Drop_on h1.jbx gd (by omega) (fun f hf=>by have:=hnm f hf;omega) ho).mono ?_;rintro e w' ⟨rfl,hD,hk,hB⟩;have hkK:Keeps K w w':=hk.less (fun k q=>⟨.inl q,fun e=>(h1.kl k q).2.1 (.inl e)⟩);have hz:=hk.size;refine⟨rfl,hkK,?_⟩
 cases hd:(delsE J.fs s).2 with
 | true =>
  rw[hd] at hB;simp only[if_true] at hB ⊢;have hns:∀k,JS g vt vf k∨F k→k≠g→JX K F g vt vf k∧k≠g:=fun k q e=>⟨.inr q,e⟩;exact⟨F,gb,vt,vf,⟨hD,fun k q=>⟨by have:=(h1.kl k q).1;omega,(h1.kl k q).2⟩,fun k q=>⟨by have:=(h1.fl k q).1;omega,(h1.fl k q).2⟩,hB,hk.own h1.tabs (fun k e=>hns k (.inl (.inr (.inl e))) (fun q=>own_blk_ne h1.tabs h1.box (by decide) (by rw[e,q]))),hk.own h1.files (fun k e=>hns k (.inl (.inr (.inr e))) (fun q=>own_blk_ne h1.files h1.box (by decide) (by rw[e,q])))⟩,fun q=>q.elim⟩
 | false =>
  rw[hd] at hB;simp only[Bool.false_eq_true,if_false] at hB ⊢;refine⟨fun _=>False,gb,.slice none 0 0,.slice none 0 0,⟨hD.less (fun k _ q=>?_),fun k q=>⟨by have:=(h1.kl k q).1;omega,?_,id⟩,fun k q=>q.elim,hB,World.ownsRow_nil _ _ _ 8,World.ownsRow_nil _ _ _ 1⟩,fun q=>q.elim⟩
  ·rcases q with q | (q | q | q) | q
   ·exact .inl q
   ·exact .inr (.inl (.inl q))
   ·cases q
   ·cases q
   ·exact q.elim
  ·rintro (e | e | e)
   ·exact (h1.kl k q).2.1 (.inl e)
   ·cases e
   ·cases e
end
theorem own_emptyG (w:World)(t:TypeId)(m:Nat):(w.alloc (.cells #[] t)).ownsRow w.heap.size t m (.slice (some ⟨w.heap.size,0,none⟩) 0 0) 0 [] :=
 ⟨by simp,.inr ⟨w.heap.size,0,#[],rfl,Nat.le_refl _,heap_alloc_new _ _,Nat.le_refl _,by unfold maxLen;omega,by simp,by simp⟩⟩
theorem strJ_info:(Tryz.prog.info? 9).map (fun i=>(i.zero,i.size,i.bytes))=some (some (.string ⟨#[]⟩),1,16):=by kernel_rfl
theorem tsL_one (ts:List TI):∀u∈tsL ts,u.oneCell'=true:=by
 intro u hu;unfold tsL at hu;rw[List.mem_flatMap] at hu;obtain⟨t,_,hu⟩:=hu;exact tiL_one t u hu
theorem fsL_one (fs:List L):∀u∈fsL fs,u.oneCell'=true:=by
 intro u hu;unfold fsL at hu;rw[List.mem_map] at hu;obtain⟨t,_,rfl⟩:=hu;rfl
set_option maxRecDepth 100000 in
set_option maxHeartbeats 1000000 in
theorem cloneS_any {w:World}{v:Value}{N:Nat}{fs:List L}(h:w.ownsRow 0 9 1 v N (fsL fs))(hl:N≤1000000) :
  Calls Tryz.prog 52 #[v] w fun e w'=>∃v',e=.returned v'∧w'.ownsRow w.heap.size 9 1 v' N (fsL fs)∧Below w.heap.size w w':=by
 rcases h.2 with⟨rfl,e⟩ | ⟨gg,cap,cur,rfl,_⟩
 ·subst e
  have hx:fsL fs=[]:=by
   have:=h.1
   simpa using this
  refine (cloneS_nil w).mono ?_;rintro e w' ⟨rfl,rfl⟩;refine⟨_,rfl,?_,Below.refl _ _⟩;rw[hx];exact World.ownsRow_nil _ _ _ 1
 ·have hr:=Reads.of_own h;obtain⟨i0,hi0,hz0,hz1,hz2⟩:=info_parts strJ_info;have eN:∀(W:World) (a:Option Addr) (n c:Nat),(binOp .eql 38 (.slice a n c) (.slice none 0 0)).run Tryz.prog W=.ok (.bool a.isNone) W:=fun W a n c=>Lib.run_eql_slice_nil W _ _ a n c 0 0 Tryz.underlying38;have hr1:=hr.alloc (Nat.le_refl _) (.cells #[] 9);have hown:=own_emptyG w 9 1;have hone:=Lib.hid (fsL_one fs);replace h:=Lib.hid h
  go_enter Tryz.func52,Tryz.ntmps52
  go_wp2_with (at_builtin;refine wpList_append_any _ rfl (.tmp 5) (.tmp 6) 38 rfl w.heap.size 9 i0 _ 1 16 Tryz.underlying38 hi0 hz0 hz1 hz2 rfl (by omega) (.slice (some ⟨w.heap.size,0,none⟩) 0 0) 0 [] rfl hown w.heap.size (some ⟨gg,0,none⟩) N cap (fsL fs) rfl hr1 hone.out (by unfold maxLen;omega) (by omega) (by simp) ?_;intro v2 w2 hown2 hgr2 hat2)
  have hO:w2.ownsRow w.heap.size 9 1 v2 N (fsL fs):=by simpa using hown2
  have hB:Below w.heap.size w w2:=((KeptBut.of_below ((Below.refl w.heap.size w).alloc (Nat.le_refl _) (.cells #[] 9)) (S:=fun k=>w.heap.size≤k)).then_grown hgr2 (fun k e=>by injection e with e;subst e;exact Nat.le_refl _)).below (fun k hk=>hk) (Nat.le_refl _)
  replace hO:=Lib.hid hO;replace hB:=Lib.hid hB;clear hown2 hgr2 hat2 hown hr1;go_wp2_with fail
  go_ret
  exact⟨_,rfl,hO.out,hB.out⟩
set_option maxRecDepth 100000 in
set_option maxHeartbeats 1000000 in
theorem cloneT_any {w:World}{v:Value}{N:Nat}{ts:List TI}(h:w.ownsRow 0 51 8 v N (tsL ts))(hl:N≤1000000) :
  Calls Tryz.prog 53 #[v] w fun e w'=>∃v',e=.returned v'∧w'.ownsRow w.heap.size 51 8 v' N (tsL ts)∧Below w.heap.size w w':=by
 rcases h.2 with⟨rfl,e⟩ | ⟨gg,cap,cur,rfl,_⟩
 ·subst e
  have hx:tsL ts=[]:=by
   have:=h.1
   simpa using this
  refine (cloneT_nil w).mono ?_;rintro e w' ⟨rfl,rfl⟩;refine⟨_,rfl,?_,Below.refl _ _⟩;rw[hx];exact World.ownsRow_nil _ _ _ 8
 ·have hr:=Reads.of_own h;obtain⟨i0,hi0,hz0,hz1,hz2⟩:=info_parts ti_info;have eN:∀(W:World) (a:Option Addr) (n c:Nat),(binOp .eql 40 (.slice a n c) (.slice none 0 0)).run Tryz.prog W=.ok (.bool a.isNone) W:=fun W a n c=>Lib.run_eql_slice_nil W _ _ a n c 0 0 Tryz.underlying40;have hr1:=hr.alloc (Nat.le_refl _) (.cells #[] 51);have hown:=own_emptyG w 51 8;have hone:=Lib.hid (tsL_one ts);replace h:=Lib.hid h
  go_enter Tryz.func53,Tryz.ntmps53
  go_wp2_with (at_builtin;refine wpList_append_any _ rfl (.tmp 5) (.tmp 6) 40 rfl w.heap.size 51 i0 _ 8 80 Tryz.underlying40 hi0 hz0 hz1 hz2 rfl (by omega) (.slice (some ⟨w.heap.size,0,none⟩) 0 0) 0 [] rfl hown w.heap.size (some ⟨gg,0,none⟩) N cap (tsL ts) rfl hr1 hone.out (by unfold maxLen;omega) (by omega) (by simp) ?_;intro v2 w2 hown2 hgr2 hat2)
  have hO:w2.ownsRow w.heap.size 51 8 v2 N (tsL ts):=by simpa using hown2
  have hB:Below w.heap.size w w2:=((KeptBut.of_below ((Below.refl w.heap.size w).alloc (Nat.le_refl _) (.cells #[] 51)) (S:=fun k=>w.heap.size≤k)).then_grown hgr2 (fun k e=>by injection e with e;subst e;exact Nat.le_refl _)).below (fun k hk=>hk) (Nat.le_refl _)
  replace hO:=Lib.hid hO;replace hB:=Lib.hid hB;clear hown2 hgr2 hat2 hown hr1;go_wp2_with fail
  go_ret
  exact⟨_,rfl,hO.out,hB.out⟩
section
variable {K:Nat→Prop}{w w':World}{g d:Nat}{s s':Dsk}{n:Nat}{lv:Int}{vl:Value}{os:List EL}{J:JW}{done over dead:Bool}{ok:Prop}
set_option maxRecDepth 100000 in
set_option maxHeartbeats 1000000 in
theorem Files_any (h:JRun K w g d s n lv vl os J done over dead ok)(hl:J.fs.length≤1000000) :
  Calls Tryz.prog 19 #[.pointer (some ⟨g,0,none⟩)] w fun e w'=>∃A c,e=.returned (.slice A J.fs.length c)∧w'.ownsRow w.heap.size 9 1 (.slice A J.fs.length c) J.fs.length (fsL J.fs)∧Below w.heap.size w w':=by
 obtain⟨F,gb,vt,vf,h1,h2⟩:=h;have c8:w.cell? ⟨g,8,none⟩=some vf:=h1.box.cell 8;have hgl:=h1.box.lt;have hc:=Lib.hid (cloneS_any h1.files hl);replace h1:=Lib.hid h1;clear h2
 go_enter Tryz.func19,Tryz.ntmps19
 go_wp2_with fail
 refine hc.out.mono ?_;rintro e w1 ⟨v',rfl,ho,hb⟩
 obtain⟨A,c,rfl⟩:∃A c,v'=.slice A J.fs.length c:=by
  rcases ho.2 with⟨rfl,e⟩ | ⟨gg,cap,cur,rfl,_⟩
  ·exact⟨none,0,by rw[e]⟩
  ·exact⟨_,cap,rfl⟩
 replace ho:=Lib.hid ho;replace hb:=Lib.hid hb;go_wp2_with fail
 go_ret
 exact⟨_,_,rfl,ho.out,hb.out⟩
set_option maxRecDepth 100000 in
set_option maxHeartbeats 1000000 in
theorem Tables_any (h:JRun K w g d s n lv vl os J done over dead ok)(hl:J.ts.length≤1000000) :
  Calls Tryz.prog 20 #[.pointer (some ⟨g,0,none⟩)] w fun e w'=>∃A c,e=.returned (.slice A J.ts.length c)∧w'.ownsRow w.heap.size 51 8 (.slice A J.ts.length c) J.ts.length (tsL J.ts)∧Below w.heap.size w w':=by
 obtain⟨F,gb,vt,vf,h1,h2⟩:=h;have c7:w.cell? ⟨g,7,none⟩=some vt:=h1.box.cell 7;have hgl:=h1.box.lt;have hc:=Lib.hid (cloneT_any h1.tabs hl);replace h1:=Lib.hid h1;clear h2
 go_enter Tryz.func20,Tryz.ntmps20
 go_wp2_with fail
 refine hc.out.mono ?_;rintro e w1 ⟨v',rfl,ho,hb⟩
 obtain⟨A,c,rfl⟩:∃A c,v'=.slice A J.ts.length c:=by
  rcases ho.2 with⟨rfl,e⟩ | ⟨gg,cap,cur,rfl,_⟩
  ·exact⟨none,0,by rw[e]⟩
  ·exact⟨_,cap,rfl⟩
 replace ho:=Lib.hid ho;replace hb:=Lib.hid hb;go_wp2_with fail
 go_ret
 exact⟨_,_,rfl,ho.out,hb.out⟩
end
def fewE (c:UInt8)(n:Nat):List Ent:=(List.range n).map fun i=>⟨[c,UInt8.ofNat (97+i)],[118],i+1,false⟩
theorem fewE_succ (c:UInt8)(n:Nat):fewE c (n+1)=fewE c n++[⟨[c,UInt8.ofNat (97+n)],[118],n+1,false⟩]:=by
 unfold fewE;rw[List.range_succ,List.map_append];rfl
theorem fewE_len (c:UInt8)(n:Nat):(fewE c n).length=n:=by unfold fewE;simp
theorem two_bytes (w:World)(b:Nat)(x y:Int)(u v:UInt8)(hx:x=u.toNat)(hy:y=v.toNat)(h0:w.cell? ⟨b,0,none⟩=some (.int .u8 x))(h1:w.cell? ⟨b,1,none⟩=some (.int .u8 y)):(convert 81 9 (.slice (some ⟨b,0,none⟩) 2 2)).run Tryz.prog w=.ok (.string (bs [u,v])) w:=by
 subst hx hy
 have:=run_convert_bytes_arg (P:=Tryz.prog) w 81 5 Tryz.underlying81 Tryz.underlying5 b 0 2 2 [(u.toNat:Int),(v.toNat:Int)] (by simp) (fun i hi=>by
  rcases i with _ | _ | i
  ·simpa using h0
  ·simpa using h1
  ·omega) 9 Tryz.underlying9
 rw[this];simp[strOfNums,bs]
set_option maxRecDepth 100000 in
set_option maxHeartbeats 4000000 in
theorem few_any (c:UInt8)(N:Nat)(hN:N≤20)(w:World) :
  Calls Tryz.prog 37 #[.int .u8 (c.toNat:Nat),.int .i64 (N:Nat)] w fun e w'=>∃A cap,e=.returned (.slice A N cap)∧OwnF w' w.heap.size (.slice A N cap) (fewE c N)∧Below w.heap.size w w':=by
 obtain⟨i0,hi0,hz0,hz1,hz2⟩:=info_parts ent_info;obtain⟨C,hC⟩:∃C:Int,((c.toNat:Nat):Int)=C:=⟨_,rfl⟩;rw[hC];replace hC:=Lib.hid hC
 go_enter Tryz.func37,Tryz.ntmps37
 go_wp2_with fail
 go_loopw [5,6] (fun lv iv wr=>∃(i:Nat),i≤N∧iv=.int .i64 (i:Nat)∧wr.ownsRow w.heap.size 46 4 lv (fewE c i).length (entsF (fewE c i))∧Below w.heap.size w wr) (fun _ iv _=>N-(intOf iv).toNat)
 case atStart=>exact⟨0,Nat.zero_le _,rfl,World.ownsRow_nil _ _ _ 4,Below.refl _ _⟩
 case round =>
  obtain⟨i,hi,rfl,ho,hb⟩:=hrel;have hz:=hb.size;rw[fewE_len] at ho
  obtain⟨VA,Vc,hvf⟩:∃A c,u5=.slice A i c:=by
   rcases ho.2 with⟨rfl,e⟩ | ⟨g,cap,cur,rfl,_⟩
   ·exact⟨none,0,by rw[e]⟩
   ·exact⟨_,cap,rfl⟩
  subst hvf
  by_cases hlt:i<N
  ·have hlt':(i:Int)<N:=by omega
   have hwa:((97+i:Nat):Int)=((UInt8.ofNat (97+i)).toNat:Int):=by
    rw[UInt8.toNat_ofNat'];omega
   obtain⟨U,hU⟩:∃U,UInt8.ofNat (97+i)=U:=⟨_,rfl⟩;have hsu:=fewE_succ c i;rw[hU] at hwa hsu
   have hcv:(convert 81 9 (.slice (some ⟨wr.heap.size,0,none⟩) 2 2)).run Tryz.prog (wr.alloc (.cells #[.int .u8 C,.int .u8 (97+(i:Int))] 5))=.ok (.string (bs [c,U])) (wr.alloc (.cells #[.int .u8 C,.int .u8 (97+(i:Int))] 5)) :=
    two_bytes _ _ _ _ c U hC.out.symm (by rw[←hwa];push_cast;rfl) ((Blk.new wr 5 #[.int .u8 C,.int .u8 (97+(i:Int))]).cell 0) ((Blk.new wr 5 #[.int .u8 C,.int .u8 (97+(i:Int))]).cell 1)
   obtain⟨E,hE⟩:∃E:Ent,(⟨[c,U],[118],i+1,false⟩:Ent)=E:=⟨_,rfl⟩
   have e1:E.key=[c,U]:=by rw[←hE]
   have e2:E.value=[118]:=by rw[←hE]
   have e3:E.seq=i+1:=by rw[←hE]
   have e4:E.gone=false:=by rw[←hE]
   rw[hE] at hsu;obtain⟨w1,hw1⟩:∃w1,wr.alloc (.cells #[.int .u8 C,.int .u8 (97+(i:Int))] 5)=w1:=⟨_,rfl⟩
   have hb1:Below wr.heap.size wr w1:=by rw[←hw1];exact (Below.refl _ _).alloc (Nat.le_refl _) _
   have hzb:=hb1.size;have ho1:=own_block ho (fun j hj=>hb1.block j (own_lt ho j hj).2);have ho2:=own_block (w':=w1.alloc (.cells #[.string (bs [c,U]),.string ⟨#[118]⟩,.int .u64 ((i:Int)+1),.bool false] 46)) ho1 (fun j hj=>Below.heap_alloc w1 _ j (own_lt ho1 j hj).2)
   have hone:Reads (w1.alloc (.cells #[.string (bs [c,U]),.string ⟨#[118]⟩,.int .u64 ((i:Int)+1),.bool false] 46)) (w1.heap.size+1) 4 (some ⟨w1.heap.size,0,none⟩) 1 [.string (bs [c,U]),.string ⟨#[118]⟩,.int .u64 ((i:Int)+1),.bool false]:=by
    have h:=one_ent w1 46 E;unfold enC at h;rw[e1,e2,e3,e4] at h;rw[show ((i+1:Nat):Int)=(i:Int)+1 by push_cast;rfl] at h;exact h
   have hbw1:=hb.trans (hb1.mono hz);rw[hw1] at hcv;replace hU:=Lib.hid hU;replace hwa:=Lib.hid hwa;replace hE:=Lib.hid hE;replace e1:=Lib.hid e1;replace e2:=Lib.hid e2;replace e3:=Lib.hid e3;replace e4:=Lib.hid e4;replace hsu:=Lib.hid hsu;replace ho:=Lib.hid ho;replace ho1:=Lib.hid ho1;replace ho2:=Lib.hid ho2;replace hone:=Lib.hid hone;replace hb:=Lib.hid hb;replace hb1:=Lib.hid hb1;replace hbw1:=Lib.hid hbw1
   go_wp2_with (at_builtin;refine wpList_append_any _ rfl (.tmp 12) (.tmp 23) _ rfl w.heap.size 46 i0 _ 4 48 Tryz.underlying44 hi0 hz0 hz1 hz2 rfl (by omega) _ i (entsF (fewE c i)) rfl ho2.out (w1.heap.size+1) (some ⟨w1.heap.size,0,none⟩) 1 1 [.string (bs [c,U]),.string ⟨#[118]⟩,.int .u64 ((i:Int)+1),.bool false] rfl ?c0 ?c1 ?c2 ?c3 ?c4 ?_;rotate_left 5;intro v2 w3 ho3 hg3 hat3)
   case c0=>exact hone.out
   case c1=>intro u hu;simp at hu;rcases hu with rfl | rfl | rfl | rfl<;>rfl
   case c2=>simp only[maxLen];omega
   case c3=>omega
   case c4=>first | omega | (simp;have:=hbw1.out.size;omega)
   have hb3:Below w.heap.size w w3:=(hbw1.out.alloc (by have:=hbw1.out.size;omega) _).grown hg3 (by simp;have:=hbw1.out.size;omega) (fun j hj=>(own_lt ho2.out j hj).1)
   have he3:(fewE c (i+1)).length=i+1∧entsF (fewE c (i+1))=entsF (fewE c i)++[.string (bs [c,U]),.string ⟨#[118]⟩,.int .u64 ((i:Int)+1),.bool false]:=by
    refine⟨fewE_len _ _,?_⟩;rw[hsu.out];unfold entsF;rw[List.flatMap_append]
    congr 1
    show enC E++[]=_;unfold enC;rw[e1.out,e2.out,e3.out,e4.out,List.append_nil,show ((i+1:Nat):Int)=(i:Int)+1 by push_cast;rfl];rfl
   exact⟨⟨i+1,by omega,by go_num,by rw[he3.1,he3.2];exact ho3,hb3⟩,by simp[intOf];omega⟩
  ·obtain rfl:i=N:=by omega
   have hlt':¬(i:Int)<i:=by omega
   rw[show wr.ownsRow w.heap.size 46 4 (.slice VA i Vc) i (entsF (fewE c i))=wr.ownsRow w.heap.size 46 4 (.slice VA i Vc) i (entsF (fewE c i)) from rfl] at ho;replace ho:=Lib.hid ho;replace hb:=Lib.hid hb;go_wp2_with fail
   go_ret
   exact⟨_,_,rfl,.of_own (by rw[fewE_len];exact ho.out),hb.out⟩
theorem new_run {B1:Nat}{w:World}{A:Option Addr}{ls:List EL}{cap d:Nat}{s:Dsk}(lv:Int)(n:Nat)(hD:Dx (fun k=>k<B1) w d s)(h:LsAt w w.heap.size A ls)(hn:ls.length≤6)(hok:∀x∈ls,0<x.l.length→OkL x.l)(hl:∀x∈ls,x.l.length≤60)(hG:Gl w)(h5:Tab w)(hB:7≤B1)(hBw:B1≤w.heap.size) :
  Calls Tryz.prog 14 #[.pointer (some ⟨d,0,none⟩),.int .i64 lv,.int .u64 (n:Nat),.slice A ls.length cap] w fun e w'=>∃K vl os,e=.returned (.pointer (some ⟨w.heap.size,0,none⟩))∧(∀k,k<B1→K k) ∧
   JRun K w' w.heap.size d s n lv vl os ⟨0,0,[],[]⟩ false false false True∧JK K w' vl os∧os.map (·.l)=(ls.filter fullP).map (·.l)∧Below w.heap.size w w':=by
 refine (JNew_any (some ⟨d,0,none⟩) lv n h hn hl).mono ?_;rintro e w' ⟨vl,os,rfl,hJ,ho,hom,hb⟩;have hz:=hb.size;have hJl:=hJ.lt;refine⟨fun k=>k<B1∨(w.heap.size<k∧k<w'.heap.size),vl,os,rfl,fun k q=>.inl q,⟨fun _=>False,none,.slice none 0 0,.slice none 0 0,⟨?_,fun k q=>⟨?_,?_,id⟩,fun k q=>q.elim,hJ,World.ownsRow_nil _ _ _ 8,World.ownsRow_nil _ _ _ 1⟩,fun _ q=>absurd rfl q⟩,?_,hom,hb⟩
 ·refine hD.grow hb (fun k q=>?_);rcases q with (q | q) | (q | q | q) | q
  ·exact .inl q
  ·exact .inr (by omega)
  ·exact .inr (by omega)
  ·cases q
  ·cases q
  ·exact q.elim
 ·rcases q with q | q<;>omega
 ·rintro (e | e | e)
  ·rcases q with q | q<;>omega
  ·cases e
  ·cases e
 ·have hlen:os.length≤6:=by
   have h1:=congrArg List.length hom;have h2:=List.length_filter_le fullP ls;rw[List.length_map,List.length_map] at h1;omega
  refine⟨⟨⟨ho.row.1,?_⟩,fun x hx=>(ho.each x hx).less (Nat.zero_le _)⟩,fun k q=>.inr ⟨?_,?_⟩,fun x hx k q=>.inr ?_,fun x hx=>?_,hlen,hG.below hb (by omega),h5.low hb (by omega),fun k q=>.inl (by omega),by omega⟩
  ·rcases ho.row.2 with q | ⟨g,cap,cur,q1,q2,q3⟩
   ·exact .inl q
   ·exact .inr ⟨g,cap,cur,q1,Nat.zero_le _,q3⟩
  ·have:=(own_lt ho.row k q).1;omega
  ·exact (own_lt ho.row k q).2
  ·rcases ho.each x hx with e | ⟨g,cap,e1,e2,e3,e4⟩
   ·rw[e.1] at q;cases q
   ·rw[e1] at q;simp only[Value.ownBlock,Option.some.injEq] at q;subst q;obtain⟨cs,hbb,_⟩:=e4.blk;exact⟨by omega,hbb.lt⟩
  ·have hm:x.l∈os.map (·.l):=List.mem_map.2 ⟨x,hx,rfl⟩;rw[hom] at hm;obtain⟨y,hy,e⟩:=List.mem_map.1 hm;obtain⟨hy1,hy2⟩:=List.mem_filter.1 hy;rw[←e];exact hok y hy1 (by unfold fullP at hy2;simpa using hy2)
theorem JOk.zero {ls:List (List Ent)}(h:LsOk ls):JOk ls ⟨0,0,[],[]⟩ :=
 ⟨Nat.zero_le _,fun hl=>(h.at_ hl).pos,fun _=>rfl,rfl,by simp,fun f hf=>by cases hf⟩
end Go.Proofs.YtlpojfgeocpkeaaGreatDoor
namespace Go.Proofs.YtlpojfgeocpkeaaGreatDoor
set_option linter.unusedVariables false
set_option linter.unusedSimpArgs false
theorem sum_le_of {T:Type}[DecidableEq T](B:T→Nat):∀(l N:List T),l.Nodup→(∀a∈l,a∈N)→(l.map B).sum≤(N.map B).sum
 | [],N,_,_=>Nat.zero_le _
 | a::l,N,h,hN=>by
  have ha:=hN a (List.mem_cons_self ..);have hp:=List.perm_cons_erase ha;have h1:=(hp.map B).sum_nat;rw[List.nodup_cons] at h;have ih:=sum_le_of B l (N.erase a) h.2 (fun b hb=>(List.mem_erase_of_ne (fun e=>h.1 (by rw[←e];exact hb))).2 (hN b (List.mem_cons_of_mem _ hb)));rw[h1];simp only[List.map_cons,List.sum_cons];omega
theorem len_le_of {T:Type}[DecidableEq T](l N:List T)(h:l.Nodup)(hN:∀a∈l,a∈N):l.length≤N.length:=by
 have h1:=sum_le_of (fun _=>1) l N h hN
 have h2:∀q:List T,(q.map fun _=>1).sum=q.length:=fun q=>by induction q with
  | nil=>rfl
  | cons x q ih=>simp only[List.map_cons,List.sum_cons,List.length_cons,ih];omega
 rw[h2,h2] at h1;exact h1
def Uniq (m:NM):Prop:=(m.map (·.1)).Nodup
theorem Uniq.del {m:NM}(h:Uniq m)(k:List UInt8):Uniq (delM k m):=by
 unfold Uniq delM;exact h.sublist (List.Sublist.map _ List.filter_sublist)
theorem Uniq.put {m:NM}(h:Uniq m)(k:List UInt8)(v:Nat):Uniq (putM k v m):=by
 have hp:=(insM_perm (k,v) (delM k m)).map (·.1);unfold Uniq putM;rw[hp.nodup_iff,List.map_cons,List.nodup_cons];refine⟨?_,h.del k⟩;intro hk;obtain⟨p,hp,e⟩:=List.mem_map.1 hk;exact ((delM_mem k p m).1 hp).2 e
theorem Uniq.does {m:NM}(h:Uniq m)(c:Chg):Uniq (doesC m c):=by
 unfold doesC
 simp only
 have h1:Uniq (if c.fr=[] then m else delM c.fr m):=by
  split
  ·exact h
  ·exact h.del _
 split
 ·exact h1
 ·exact h1.put _ _
structure Dsk.Uq (s:Dsk):Prop where
 names:Uniq s.names
 last:Uniq s.last
namespace Dsk
variable {s:Dsk}
theorem Uq.of_eq (h:s.Uq){t:Dsk}(h1:t.names=s.names)(h2:t.last=s.last):t.Uq:=⟨by rw[h1];exact h.names,by rw[h2];exact h.last⟩
theorem Uq.burn (h:s.Uq):s.burn.Uq:=h.of_eq (burn_same).2.1 (burn_same).2.2.1
theorem Uq.changed (h:s.Uq)(c:Chg):(s.changed c).1.Uq:=by
 unfold Dsk.changed;split
 ·exact h.burn
 ·exact⟨h.burn.names.does c,h.burn.last⟩
theorem Uq.create (h:s.Uq)(n:Nm):(s.create n).1.Uq:=by
 unfold Dsk.create;split
 ·exact h
 ·split
  ·exact h
  ·split
   ·exact Uq.changed (s:={ s with files:=s.files++[⟨[],0⟩] }) ⟨h.names,h.last⟩ _
   ·exact h
theorem Uq.append (h:s.Uq)(n:Nm)(x:List UInt8):(s.append n x).1.Uq:=by
 unfold Dsk.append;split
 ·exact h
 ·split
  ·exact h
  ·split
   ·exact h
   ·split
    ·exact h.burn
    ·exact h.burn.of_eq rfl rfl
theorem Uq.sync (h:s.Uq)(n:Nm):(s.sync n).1.Uq:=by
 unfold Dsk.sync;split
 ·exact h
 ·split
  ·exact h
  ·split
   ·exact h.burn
   ·exact h.burn.of_eq rfl rfl
theorem Uq.delete (h:s.Uq)(n:Nm):(s.delete n).1.Uq:=by
 unfold Dsk.delete;split
 ·exact h
 ·split
  ·exact h
  ·exact h.changed _
theorem Uq.dirsync (h:s.Uq):s.dirsync.1.Uq:=by
 unfold Dsk.dirsync;split
 ·exact h
 ·split
  ·exact h.burn
  ·exact⟨h.burn.names,h.burn.names⟩
theorem Uq.setFuse (h:s.Uq)(n:Int):(s.setFuse n).Uq:=h.of_eq rfl rfl
theorem Uq.new (r:Int):(Dsk.new r).Uq:=⟨List.nodup_nil,List.nodup_nil⟩
def fil (s:Dsk)(n:Nm):Option Fil:=(getM n s.names).bind fun i=>s.files[i]?
theorem fil_of (ok:s.Ok){n:Nm}{i:Nat}(h:getM n s.names=some i):∃f,s.files[i]? = some f∧s.fil n=some f:=by
 have hi:=(ok.names _ (getM_mem h)).2;refine⟨s.files[i],List.getElem?_eq_getElem hi,?_⟩;unfold fil;rw[h];exact List.getElem?_eq_getElem hi
theorem fil_get {n:Nm}{f:Fil}(h:s.fil n=some f):∃i,getM n s.names=some i∧s.files[i]? = some f:=by
 unfold fil at h
 cases hg:getM n s.names with
 | none=>rw[hg] at h;cases h
 | some i=>rw[hg] at h;exact⟨i,rfl,h⟩
theorem fil_none (ok:s.Ok){n:Nm}:s.fil n=none↔getM n s.names=none:=by
 constructor
 ·intro h
  cases hg:getM n s.names with
  | none=>rfl
  | some i=>obtain⟨f,_,e⟩:=fil_of ok hg;rw[e] at h;cases h
 ·intro h;unfold fil;rw[h];rfl
theorem fil_same {t:Dsk}(h1:t.names=s.names)(h2:t.files=s.files)(k:Nm):t.fil k=s.fil k:=by unfold fil;rw[h1,h2]
theorem getM_of_mem {m:NM}(h:Uniq m){p:List UInt8 × Nat}(hp:p∈m):getM p.1 m=some p.2:=by
 induction m with
 | nil=>cases hp
 | cons q r ih =>
  rw[getM_cons];unfold Uniq at h;rw[List.map_cons,List.nodup_cons] at h;rcases List.mem_cons.1 hp with e | e
  ·rw[e,if_pos rfl]
  ·rw[if_neg (fun e2=>h.1 (by rw[e2];exact List.mem_map.2 ⟨p,e,rfl⟩))];exact ih h.2 e
theorem getM_del_self (k:List UInt8)(m:NM):getM k (delM k m)=none:=by
 cases h:getM k (delM k m) with
 | none=>rfl
 | some i=>exact absurd rfl ((delM_mem k (k,i) m).1 (getM_mem h)).2
theorem getM_put_self (k:List UInt8)(v:Nat)(m:NM):getM k (putM k v m)=some v:=by
 have hm:(k,v)∈putM k v m:=(putM_mem k v (k,v) m).2 (.inl rfl)
 cases hg:getM k (putM k v m) with
 | none=>exact absurd rfl (getM_none hg _ hm)
 | some u =>
  rcases (putM_mem k v (k,u) m).1 (getM_mem hg) with e | ⟨_,e⟩
  ·injection e with _ e;rw[e]
  ·exact absurd rfl e
def fsz (s:Dsk)(n:Nm):Nat:=match s.fil n with
 | some f=>f.d.length
 | none=>0
theorem used_fsz (u:s.Uq)(ok:s.Ok):s.used=((s.names.map (·.1)).map s.fsz).sum:=by
 unfold Dsk.used;rw[List.map_map]
 congr 1
 refine List.map_congr_left fun p hp=>?_;obtain⟨f,h1,h2⟩:=fil_of ok (getM_of_mem u.names hp);simp only[Function.comp_apply,dlen,fsz,h1,h2]
theorem mem_names {n:Nm}(ok:s.Ok):n∈s.names.map (·.1)↔s.fil n≠none:=by
 constructor
 ·intro h e;rw[fil_none ok] at e;obtain⟨p,hp,e2⟩:=List.mem_map.1 h;exact getM_none e p hp e2
 ·intro h
  cases hg:getM n s.names with
  | none=>exact absurd ((fil_none ok).2 hg) h
  | some i=>exact List.mem_map.2 ⟨_,getM_mem hg,rfl⟩
theorem used_le (u:s.Uq)(ok:s.Ok)(N:List Nm)(B:Nm→Nat)(h:∀k f,s.fil k=some f→k∈N∧f.d.length≤B k):s.used≤(N.map B).sum:=by
 rw[used_fsz u ok]
 have h1:((s.names.map (·.1)).map s.fsz).sum≤((s.names.map (·.1)).map B).sum:=by
  have:∀l:List Nm,(∀k∈l,s.fsz k≤B k)→(l.map s.fsz).sum≤(l.map B).sum:=fun l=>by
   induction l with
   | nil=>exact fun _=>Nat.le_refl _
   | cons a l ih =>
    intro hl;have:=ih (fun k hk=>hl k (List.mem_cons_of_mem _ hk));have:=hl a (List.mem_cons_self ..);simp only[List.map_cons,List.sum_cons];omega
  refine this _ fun k hk=>?_;unfold fsz
  cases hf:s.fil k with
  | none=>exact Nat.zero_le _
  | some f=>exact (h k f hf).2
 refine Nat.le_trans h1 (sum_le_of B _ N u.names fun k hk=>?_)
 cases hf:s.fil k with
 | none=>exact absurd hf ((mem_names ok).1 hk)
 | some f=>exact (h k f hf).1
theorem names_le (u:s.Uq)(ok:s.Ok)(N:List Nm)(h:∀k,s.fil k≠none→k∈N):s.names.length≤N.length:=by
 have:=len_le_of _ N u.names (fun k hk=>h k ((mem_names ok).1 hk))
 rwa [List.length_map] at this
theorem names_ge (ok:s.Ok)(N:List Nm)(hN:N.Nodup)(h:∀k∈N,s.fil k≠none):N.length≤s.names.length:=by
 have:=len_le_of N (s.names.map (·.1)) hN (fun k hk=>(mem_names ok).2 (h k hk))
 rwa [List.length_map] at this
theorem used_eq {t:Dsk}(us:s.Uq)(os:s.Ok)(ut:t.Uq)(ot:t.Ok)(h:∀k,t.fil k=s.fil k):t.used=s.used:=by
 have h1:=used_le us os (t.names.map (·.1)) t.fsz (fun k f e=>⟨(mem_names ot).2 (by rw[h,e];simp),by unfold fsz;rw[h,e];exact Nat.le_refl _⟩);have h2:=used_le ut ot (s.names.map (·.1)) s.fsz (fun k f e=>⟨(mem_names os).2 (by rw[←h,e];simp),by unfold fsz;rw[←h,e];exact Nat.le_refl _⟩);rw[←used_fsz ut ot] at h1;rw[←used_fsz us os] at h2;omega
structure Did (s t:Dsk)(r:Nat)(F:Nm→Option Fil):Prop where
 room:t.room=s.room
 res:(r=7∧t.off=true∧0<s.fuse)∨(r=0∧t.off=false∧t.fuse≤s.fuse∧∀k,t.fil k=F k)
def updF (F:Nm→Option Fil)(n:Nm)(v:Option Fil):Nm→Option Fil:=fun k=>if k=n then v else F k
theorem burn_cases (hoff:s.off=false):(s.burn.off=true∧0<s.fuse)∨(s.burn.off=false∧s.burn.fuse≤s.fuse):=by
 by_cases hf:0<s.fuse
 ·rw[burn_pos hf]
  by_cases h1:s.fuse=1
  ·exact .inl ⟨by simp[h1],hf⟩
  ·exact .inr ⟨by simp;omega,by show s.fuse-1≤_;omega⟩
 ·rw[burn_zero hf];exact .inr ⟨hoff,Nat.le_refl _⟩
theorem create_did (ok:s.Ok)(hoff:s.off=false){n:Nm}(hn:s.fil n=none)(hr:rightB n=true):Did s (s.create n).1 (s.create n).2 (updF s.fil n (some ⟨[],0⟩)):=by
 have hg:=(fil_none ok).1 hn
 have hne:n≠[]:=by intro e;rw[e] at hr;simp[rightB] at hr
 have e1:s.create n=changed { s with files:=s.files++[⟨[],0⟩] } ⟨[],n,some s.files.length⟩:=by
  unfold Dsk.create;rw[if_neg (by rw[hoff];decide),hg];simp only[hr,if_true]
 rw[e1];have hb:=burn_cases (s:={ s with files:=s.files++[⟨[],0⟩] }) hoff;have hs:=@burn_same { s with files:=s.files++[⟨[],0⟩] };unfold Dsk.changed;obtain⟨b1,b2,b3,b4,b5,b6⟩:=hs;rcases hb with⟨h1,h2⟩ | ⟨h1,h2⟩
 ·rw[if_pos h1];exact⟨b5,.inl ⟨rfl,h1,h2⟩⟩
 ·rw[if_neg (by rw[h1];decide)];refine⟨b5,.inr ⟨rfl,h1,h2,fun k=>?_⟩⟩;unfold fil updF;simp only[b1,b2]
  have hd:doesC s.names ⟨[],n,some s.files.length⟩=putM n s.files.length s.names:=by
   unfold doesC
   simp[hne]
  rw[hd]
  by_cases hk:k=n
  ·rw[if_pos hk,hk,getM_put_self];simp
  ·rw[if_neg hk,getM_put (fun e=>hk e.symm)]
   cases hgk:getM k s.names with
   | none=>rfl
   | some i =>
    have hi:=(ok.names _ (getM_mem hgk)).2;show (s.files++[⟨[],0⟩])[i]? = s.files[i]?;rw[List.getElem?_append_left hi]
theorem delete_did (ok:s.Ok)(dir:s.Dir)(hoff:s.off=false){n:Nm}(hn:s.fil n≠none):Did s (s.delete n).1 (s.delete n).2 (updF s.fil n none):=by
 obtain⟨i,hg⟩:∃i,getM n s.names=some i:=by
  cases hg:getM n s.names with
  | none=>exact absurd ((fil_none ok).2 hg) hn
  | some i=>exact⟨i,rfl⟩
 have e1:s.delete n=s.changed ⟨n,[],none⟩:=by
  unfold Dsk.delete;rw[if_neg (by rw[hoff];decide),hg]
 rw[e1];obtain⟨b1,b2,b3,b4,b5,b6⟩:=@burn_same s;unfold Dsk.changed;rcases burn_cases hoff with⟨h1,h2⟩ | ⟨h1,h2⟩
 ·rw[if_pos h1];exact⟨b5,.inl ⟨rfl,h1,h2⟩⟩
 ·rw[if_neg (by rw[h1];decide)];refine⟨b5,.inr ⟨rfl,h1,h2,fun k=>?_⟩⟩;unfold fil updF;simp only[b1,b2]
  by_cases hk:k=n
  ·rw[if_pos hk,hk];have hne:n≠[]:=dir.cur.2 _ (getM_mem hg)
   unfold doesC
   simp only[];rw[if_neg hne,if_pos trivial,getM_del_self];rfl
  ·rw[if_neg hk]
   unfold doesC
   simp only[]
   by_cases hne:n=[]
   ·rw[if_pos hne,if_pos trivial]
   ·rw[if_neg hne,if_pos trivial,getM_del (fun e=>hk e.symm)]
theorem setF_fil (ok:s.Ok)(dir:s.Dir){n:Nm}{f:Fil}{i:Nat}(hg:getM n s.names=some i)(hf:s.files[i]? = some f){t:Dsk}(h1:t.names=s.names)(h2:t.files=s.files)(g:Fil→Fil)(k:Nm):(t.setF i g).fil k=updF s.fil n (some (g f)) k:=by
 unfold fil updF Dsk.setF;simp only[h1,h2,hf];have hi:=(List.getElem?_eq_some_iff.1 hf).1
 by_cases hk:k=n
 ·rw[if_pos hk,hk,hg];simp[List.getElem?_set_self hi]
 ·rw[if_neg hk]
  cases hgk:getM k s.names with
  | none=>rfl
  | some j =>
   have hij:i≠j:=fun e=>by
    subst e;have:=dir.cur.inj (getM_mem hgk) (getM_mem hg) rfl;injection this with e1 _;exact hk e1
   show (s.files.set i (g f))[j]? = s.files[j]?;rw[List.getElem?_set_ne hij]
theorem append_did (ok:s.Ok)(dir:s.Dir)(hoff:s.off=false){n:Nm}{f:Fil}(hn:s.fil n=some f)(x:List UInt8) :
  (s.room<s.used+x.length∧s.append n x=(s,6))∨(¬s.room<s.used+x.length∧Did s (s.append n x).1 (s.append n x).2 (updF s.fil n (some ⟨f.d++x,f.k⟩))):=by
 obtain⟨i,hg,hf⟩:=fil_get hn;unfold Dsk.append;rw[if_neg (by rw[hoff];decide),hg];simp only
 by_cases hr:s.room<s.used+x.length
 ·rw[if_pos hr];exact .inl ⟨hr,rfl⟩
 ·refine .inr ⟨hr,?_⟩;rw[if_neg hr];obtain⟨b1,b2,b3,b4,b5,b6⟩:=@burn_same s;rcases burn_cases hoff with⟨h1,h2⟩ | ⟨h1,h2⟩
  ·rw[if_pos h1];exact⟨b5,.inl ⟨rfl,h1,h2⟩⟩
  ·rw[if_neg (by rw[h1];decide)];exact⟨b5,.inr ⟨rfl,h1,h2,fun k=>setF_fil ok dir hg hf b2 b1 _ k⟩⟩
theorem sync_did (ok:s.Ok)(dir:s.Dir)(hoff:s.off=false){n:Nm}{f:Fil}(hn:s.fil n=some f):Did s (s.sync n).1 (s.sync n).2 (updF s.fil n (some ⟨f.d,f.d.length⟩)):=by
 obtain⟨i,hg,hf⟩:=fil_get hn;unfold Dsk.sync;rw[if_neg (by rw[hoff];decide),hg];simp only;obtain⟨b1,b2,b3,b4,b5,b6⟩:=@burn_same s;rcases burn_cases hoff with⟨h1,h2⟩ | ⟨h1,h2⟩
 ·rw[if_pos h1];exact⟨b5,.inl ⟨rfl,h1,h2⟩⟩
 ·rw[if_neg (by rw[h1];decide)];exact⟨b5,.inr ⟨rfl,h1,h2,fun k=>setF_fil ok dir hg hf b2 b1 _ k⟩⟩
theorem dirsync_did (hoff:s.off=false):Did s s.dirsync.1 s.dirsync.2 s.fil∧(s.dirsync.2=0→s.dirsync.1.last=s.dirsync.1.names∧s.dirsync.1.chg=[]):=by
 unfold Dsk.dirsync;rw[if_neg (by rw[hoff];decide)];obtain⟨b1,b2,b3,b4,b5,b6⟩:=@burn_same s;rcases burn_cases hoff with⟨h1,h2⟩ | ⟨h1,h2⟩
 ·rw[if_pos h1];exact⟨⟨b5,.inl ⟨rfl,h1,h2⟩⟩,fun e=>absurd (show (7:Nat)=0 from e) (by decide)⟩
 ·rw[if_neg (by rw[h1];decide)];exact⟨⟨b5,.inr ⟨rfl,h1,h2,fun k=>fil_same b2 b1 k⟩⟩,fun _=>⟨rfl,rfl⟩⟩
theorem held_of (dir:s.Dir)(h1:s.last=s.names)(h2:s.chg=[]){n:Nm}{d:List UInt8}(hf:s.fil n=some ⟨d,d.length⟩):∃i,Held s n i d:=by
 obtain⟨i,hg,hi⟩:=fil_get hf
 have ho:∀p∈s.names,p.2=i→p.1=n:=fun p hp e=>by
  have:=dir.cur.inj hp (getM_mem hg) e;rw[this]
 exact⟨i,hg,by rw[h1];exact hg,ho,by rw[h1];exact ho,by rw[h2];exact fun c hc=>(by cases hc),hi⟩
theorem Did.calm {s t:Dsk}{r:Nat}{F:Nm→Option Fil}(h:Did s t r F)(hf:s.fuse=0):r=0∧t.off=false∧t.fuse=0∧∀k,t.fil k=F k:=by
 rcases h.res with⟨_,_,h3⟩ | ⟨h1,h2,h3,h4⟩
 ·omega
 ·exact⟨h1,h2,by omega,h4⟩
end Dsk
end Go.Proofs.YtlpojfgeocpkeaaGreatDoor
