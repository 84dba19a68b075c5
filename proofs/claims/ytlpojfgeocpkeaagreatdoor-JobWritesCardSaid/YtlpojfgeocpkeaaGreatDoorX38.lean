/- Contracts of package job: Step of a job that is over, done, or without power; Drop; New; Used, Room. Contracts of package job: Files, Tables. Contracts of the law: few. A law's row, whatever its parameters: what a walk that leaves old memory as it was gives, and how the row closes. A row whose items are read one by one, opened. A crash's choices in memory below a mark. A crash's choices that came in, opened. A change's row whose call may read package variables: what the world is shaped like, too. Chapter 17's rows: what the program's variables hold; lists that came in, opened. -/
import Derived.Test.YtlpojfgeocpkeaaGreatDoorJN16J
import Derived.Test.YtlpojfgeocpkeaaGreatDoorRows
import Derived.WalkKit
import Derived.ProofKit
import Derived.OpenShut
import Derived.JoinedCond
import Derived.Carry
import Derived.Lib.SmallJoins
import Derived.Deep.Slices
import Derived.Deep.Fields
import Derived.ChangeSame
import Derived.Test.YtlpojfgeocpkeaaGreatDoorX01
import Derived.LaidMore
import Derived.Lay
import Derived.Stop.Joined
import Derived.Test.YtlpojfgeocpkeaaGreatDoorX06
import Derived.Handed
import Derived.HandedShaped
import Derived.Lib.LaidTab
import Derived.Stop.LaidErr
import Derived.SevenTiedAt
namespace Go.Proofs.YtlpojfgeocpkeaaGreatDoor
open Go.RowKit Go.Sort
set_option linter.unusedVariables false
set_option linter.unusedSimpArgs false
section
variable {K:Nat→Prop}{w w':World}{g d:Nat}{s s':Dsk}{n:Nat}{lv:Int}{vl:Value}{os:List EL}{J:JW}{done over dead:Bool}{ok:Prop}
theorem JRun.dx_ (h:JRun K w g d s n lv vl os J done over dead ok):Dx K w d s:=by
 obtain⟨F,gb,vt,vf,h1,h2⟩:=h;exact h1.dx.less (fun k _ q=>.inl q)
set_option maxRecDepth 100000 in
set_option maxHeartbeats 4000000 in
theorem Step_over (h:JRun K w g d s n lv vl os J done true false ok)(ho:s.off=false) :
  Calls Tryz.prog 15 #[.pointer (some ⟨g,0,none⟩)] w fun e w'=>e=.returned (.tuple #[.bool false,.int .i64 9])∧Keeps K w w'∧JRun K w' g d s n lv vl os J done true false ok:=by
 have hmf:∀(fn:Fn) (first cap:Array Value) (w:World),(Instr.makeFunc fn first cap).run Tryz.prog w=.ok (.func fn first cap) w:=fun _ _ _ _=>rfl
 obtain⟨B,hB⟩:∃b,w.heap.size=b:=⟨_,rfl⟩;have bJ0:=Blk.new w 32 #[.pointer (some ⟨g,0,none⟩)];have bl0:Below w.heap.size w (w.alloc (.cells #[.pointer (some ⟨g,0,none⟩)] 32)):=(Below.refl _ _).alloc (Nat.le_refl _) _
 have z0:(w.alloc (.cells #[.pointer (some ⟨g,0,none⟩)] 32)).heap.size=B+1:=by rw[←hB];simp
 obtain⟨wa,hwa⟩:∃x,w.alloc (.cells #[.pointer (some ⟨g,0,none⟩)] 32)=x:=⟨_,rfl⟩;rw[hwa] at bJ0 bl0 z0;have bD0:=Blk.new wa 4 #[.bool false];have bl1:Below wa.heap.size wa (wa.alloc (.cells #[.bool false] 4)):=(Below.refl _ _).alloc (Nat.le_refl _) _
 have z1:(wa.alloc (.cells #[.bool false] 4)).heap.size=B+1+1:=by rw[←z0];simp
 obtain⟨wb,hwb⟩:∃x,wa.alloc (.cells #[.bool false] 4)=x:=⟨_,rfl⟩;rw[hwb] at bD0 bl1 z1;have bE0:=Blk.new wb 28 #[.int .i64 0];have bl2:Below wb.heap.size wb (wb.alloc (.cells #[.int .i64 0] 28)):=(Below.refl _ _).alloc (Nat.le_refl _) _
 have z2:(wb.alloc (.cells #[.int .i64 0] 28)).heap.size=B+1+1+1:=by rw[←z1];simp
 obtain⟨w0,hw0⟩:∃x,wb.alloc (.cells #[.int .i64 0] 28)=x:=⟨_,rfl⟩;rw[hw0] at bE0 bl2 z2;rw[hB] at bJ0;rw[z0] at bD0;rw[z1] at bE0;have bD:=bD0.below bl2 bD0.lt;have bJ:=(bJ0.below bl1 bJ0.lt).below bl2 (by rw[z1];omega);have bE:=bE0;have hA:Below w.heap.size w w0:=bl0.trans ((bl1.mono (by omega)).trans (bl2.mono (by omega)));clear bD0 bJ0 bE0 bl0 bl1 bl2
 have hB3:B+1+1<w0.heap.size:=by omega
 obtain⟨h2,hK⟩:=h.below hA;obtain⟨F0,gb0,vt0,vf0,hA0⟩:=h2.out_;have hoff:=Lib.hid (off_on hA0.dx hA0.box ho);have c0:w0.cell? ⟨B,0,none⟩=some (.pointer (some ⟨g,0,none⟩)):=bJ.cell 0
 have c9:w0.cell? ⟨g,9,none⟩=some (.bool done):=hA0.box.cell 9
 have c10:w0.cell? ⟨g,10,none⟩=some (.bool true):=hA0.box.cell 10;have cl:=hA0.box.lt;have d1:=bD.frozen 0;have d2:=bE.frozen 0;have e1:w0.cell? ⟨B+1,0,none⟩=some (.bool false):=bD.cell 0;have e2:w0.cell? ⟨B+1+1,0,none⟩=some (.int .i64 0):=bE.cell 0;have b3:Blk (w0.setCell ⟨B+1,0,none⟩ (.bool false)) (B+1) 4 #[.bool false]:=bD.set_ 0 (.bool false);have b4:Blk (w0.setCell ⟨B+1,0,none⟩ (.bool false)) (B+1+1) 28 #[.int .i64 0]:=bE.far (by show B+1+1≠B+1;omega) _;have b5:Blk ((w0.setCell ⟨B+1,0,none⟩ (.bool false)).setCell ⟨B+1+1,0,none⟩ (.int .i64 9)) (B+1+1) 28 #[.int .i64 9]:=b4.set_ 0 (.int .i64 9);have b6:Blk ((w0.setCell ⟨B+1,0,none⟩ (.bool false)).setCell ⟨B+1+1,0,none⟩ (.int .i64 9)) (B+1) 4 #[.bool false]:=b3.far (by show B+1≠B+1+1;omega) _;have hlt:=h.lt;have hbb:Below w.heap.size w ((w0.setCell ⟨B+1,0,none⟩ (.bool false)).setCell ⟨B+1+1,0,none⟩ (.int .i64 9)):=(hA.setCell (by show _≤B+1;omega) _).setCell (by show _≤B+1+1;omega) _;obtain⟨h3,hK3⟩:=h.below hbb;clear hA0 b3 b4 hbb h2 hK;replace h:=Lib.hid h;replace h3:=Lib.hid h3;replace hK3:=Lib.hid hK3;replace b5:=Lib.hid b5;replace b6:=Lib.hid b6;replace bJ:=Lib.hid bJ;replace bD:=Lib.hid bD;replace bE:=Lib.hid bE;replace hA:=Lib.hid hA;have hza:=Lib.hid z0;have hzb:=Lib.hid z1;clear z0 z1 z2
 go_enter_defers Tryz.func15,Tryz.ntmps15
 go_wp2_with fail
 rw[hza.out,hzb.out];clear hwa hwb hw0;refine hoff.out.mono ?_;clear hoff;rintro e w' ⟨rfl,rfl⟩;go_wp2_with fail
 exact⟨_,results_two_cells rfl _ _ (B+1) (B+1+1) _ _ rfl rfl (load_bool (b6.out.cell 0)) (load_errno (b5.out.cell 0)),rfl,hK3.out,h3.out⟩
set_option maxRecDepth 100000 in
set_option maxHeartbeats 4000000 in
theorem Step_done (h:JRun K w g d s n lv vl os J true false false ok)(ho:s.off=false) :
  Calls Tryz.prog 15 #[.pointer (some ⟨g,0,none⟩)] w fun e w'=>e=.returned (.tuple #[.bool true,.int .i64 0])∧Keeps K w w'∧JRun K w' g d s n lv vl os J true false false ok:=by
 have hmf:∀(fn:Fn) (first cap:Array Value) (w:World),(Instr.makeFunc fn first cap).run Tryz.prog w=.ok (.func fn first cap) w:=fun _ _ _ _=>rfl
 obtain⟨B,hB⟩:∃b,w.heap.size=b:=⟨_,rfl⟩;have bJ0:=Blk.new w 32 #[.pointer (some ⟨g,0,none⟩)];have bl0:Below w.heap.size w (w.alloc (.cells #[.pointer (some ⟨g,0,none⟩)] 32)):=(Below.refl _ _).alloc (Nat.le_refl _) _
 have z0:(w.alloc (.cells #[.pointer (some ⟨g,0,none⟩)] 32)).heap.size=B+1:=by rw[←hB];simp
 obtain⟨wa,hwa⟩:∃x,w.alloc (.cells #[.pointer (some ⟨g,0,none⟩)] 32)=x:=⟨_,rfl⟩;rw[hwa] at bJ0 bl0 z0;have bD0:=Blk.new wa 4 #[.bool false];have bl1:Below wa.heap.size wa (wa.alloc (.cells #[.bool false] 4)):=(Below.refl _ _).alloc (Nat.le_refl _) _
 have z1:(wa.alloc (.cells #[.bool false] 4)).heap.size=B+1+1:=by rw[←z0];simp
 obtain⟨wb,hwb⟩:∃x,wa.alloc (.cells #[.bool false] 4)=x:=⟨_,rfl⟩;rw[hwb] at bD0 bl1 z1;have bE0:=Blk.new wb 28 #[.int .i64 0];have bl2:Below wb.heap.size wb (wb.alloc (.cells #[.int .i64 0] 28)):=(Below.refl _ _).alloc (Nat.le_refl _) _
 have z2:(wb.alloc (.cells #[.int .i64 0] 28)).heap.size=B+1+1+1:=by rw[←z1];simp
 obtain⟨w0,hw0⟩:∃x,wb.alloc (.cells #[.int .i64 0] 28)=x:=⟨_,rfl⟩;rw[hw0] at bE0 bl2 z2;rw[hB] at bJ0;rw[z0] at bD0;rw[z1] at bE0;have bD:=bD0.below bl2 bD0.lt;have bJ:=(bJ0.below bl1 bJ0.lt).below bl2 (by rw[z1];omega);have bE:=bE0;have hA:Below w.heap.size w w0:=bl0.trans ((bl1.mono (by omega)).trans (bl2.mono (by omega)));clear bD0 bJ0 bE0 bl0 bl1 bl2
 have hB3:B+1+1<w0.heap.size:=by omega
 obtain⟨h2,hK⟩:=h.below hA;obtain⟨F0,gb0,vt0,vf0,hA0⟩:=h2.out_;have hoff:=Lib.hid (off_on hA0.dx hA0.box ho);have c0:w0.cell? ⟨B,0,none⟩=some (.pointer (some ⟨g,0,none⟩)):=bJ.cell 0;have c9:w0.cell? ⟨g,9,none⟩=some (.bool true):=hA0.box.cell 9;have c10:w0.cell? ⟨g,10,none⟩=some (.bool false):=hA0.box.cell 10;have cl:=hA0.box.lt;have d1:=bD.frozen 0;have d2:=bE.frozen 0;have e1:w0.cell? ⟨B+1,0,none⟩=some (.bool false):=bD.cell 0;have e2:w0.cell? ⟨B+1+1,0,none⟩=some (.int .i64 0):=bE.cell 0;have b3:Blk (w0.setCell ⟨B+1,0,none⟩ (.bool true)) (B+1) 4 #[.bool true]:=bD.set_ 0 (.bool true);have b4:Blk (w0.setCell ⟨B+1,0,none⟩ (.bool true)) (B+1+1) 28 #[.int .i64 0]:=bE.far (by show B+1+1≠B+1;omega) _;have b5:Blk ((w0.setCell ⟨B+1,0,none⟩ (.bool true)).setCell ⟨B+1+1,0,none⟩ (.int .i64 0)) (B+1+1) 28 #[.int .i64 0]:=b4.set_ 0 (.int .i64 0);have b6:Blk ((w0.setCell ⟨B+1,0,none⟩ (.bool true)).setCell ⟨B+1+1,0,none⟩ (.int .i64 0)) (B+1) 4 #[.bool true]:=b3.far (by show B+1≠B+1+1;omega) _;have hlt:=h.lt;have hbb:Below w.heap.size w ((w0.setCell ⟨B+1,0,none⟩ (.bool true)).setCell ⟨B+1+1,0,none⟩ (.int .i64 0)):=(hA.setCell (by show _≤B+1;omega) _).setCell (by show _≤B+1+1;omega) _;obtain⟨h3,hK3⟩:=h.below hbb;clear hA0 b3 b4 hbb h2 hK;replace h:=Lib.hid h;replace h3:=Lib.hid h3;replace hK3:=Lib.hid hK3;replace b5:=Lib.hid b5;replace b6:=Lib.hid b6;replace bJ:=Lib.hid bJ;replace bD:=Lib.hid bD;replace bE:=Lib.hid bE;replace hA:=Lib.hid hA;have hza:=Lib.hid z0;have hzb:=Lib.hid z1;clear z0 z1 z2
 go_enter_defers Tryz.func15,Tryz.ntmps15
 go_wp2_with fail
 rw[hza.out,hzb.out];clear hwa hwb hw0;refine hoff.out.mono ?_;clear hoff;rintro e w' ⟨rfl,rfl⟩;go_wp2_with fail
 exact⟨_,results_two_cells rfl _ _ (B+1) (B+1+1) _ _ rfl rfl (load_bool (b6.out.cell 0)) (load_errno (b5.out.cell 0)),rfl,hK3.out,h3.out⟩
end
theorem own_emptyG (w:World)(t:TypeId)(m:Nat):(w.alloc (.cells #[] t)).ownsRow w.heap.size t m (.slice (some ⟨w.heap.size,0,none⟩) 0 0) 0 [] :=
 ⟨by simp,.inr ⟨w.heap.size,0,#[],rfl,Nat.le_refl _,heap_alloc_new _ _,Nat.le_refl _,by unfold maxLen;omega,by simp,by simp⟩⟩
theorem strJ_info:(Tryz.prog.info? 9).map (fun i=>(i.zero,i.size,i.bytes))=some (some (.string ⟨#[]⟩),1,16):=by kernel_rfl
theorem tsL_one (ts:List TI):∀u∈tsL ts,u.oneCell'=true:=by
 intro u hu;unfold tsL at hu;rw[List.mem_flatMap] at hu;obtain⟨t,_,hu⟩:=hu;exact tiL_one t u hu
theorem fsL_one (fs:List L):∀u∈fsL fs,u.oneCell'=true:=by
 intro u hu;unfold fsL at hu;rw[List.mem_map] at hu;obtain⟨t,_,rfl⟩:=hu;rfl
set_option maxRecDepth 100000 in
set_option maxHeartbeats 1000000 in
theorem cloneS_any {w:World}{v:Value}{N:Nat}{fs:List L}(h:w.ownsRow 0 9 1 v N (fsL fs))(hl:N≤1000000) :
  Calls Tryz.prog 52 #[v] w fun e w'=>∃v',e=.returned v'∧w'.ownsRow w.heap.size 9 1 v' N (fsL fs)∧Below w.heap.size w w':=by
 rcases h.2 with⟨rfl,e⟩ | ⟨gg,cap,cur,rfl,_⟩
 ·subst e
  have hx:fsL fs=[]:=by
   have:=h.1
   simpa using this
  refine (cloneS_nil w).mono ?_;rintro e w' ⟨rfl,rfl⟩;refine⟨_,rfl,?_,Below.refl _ _⟩;rw[hx];exact World.ownsRow_nil _ _ _ 1
 ·have hr:=Reads.of_own h;obtain⟨i0,hi0,hz0,hz1,hz2⟩:=info_parts strJ_info;have eN:∀(W:World) (a:Option Addr) (n c:Nat),(binOp .eql 38 (.slice a n c) (.slice none 0 0)).run Tryz.prog W=.ok (.bool a.isNone) W:=fun W a n c=>Lib.run_eql_slice_nil W _ _ a n c 0 0 Tryz.underlying38;have hr1:=hr.alloc (Nat.le_refl _) (.cells #[] 9);have hown:=own_emptyG w 9 1;have hone:=Lib.hid (fsL_one fs);replace h:=Lib.hid h
  go_enter Tryz.func52,Tryz.ntmps52
  go_wp2_with (at_builtin;refine wpList_append_any _ rfl (.tmp 5) (.tmp 6) 38 rfl w.heap.size 9 i0 _ 1 16 Tryz.underlying38 hi0 hz0 hz1 hz2 rfl (by omega) (.slice (some ⟨w.heap.size,0,none⟩) 0 0) 0 [] rfl hown w.heap.size (some ⟨gg,0,none⟩) N cap (fsL fs) rfl hr1 hone.out (by unfold maxLen;omega) (by omega) (by simp) ?_;intro v2 w2 hown2 hgr2 hat2)
  have hO:w2.ownsRow w.heap.size 9 1 v2 N (fsL fs):=by simpa using hown2
  have hB:Below w.heap.size w w2:=((KeptBut.of_below ((Below.refl w.heap.size w).alloc (Nat.le_refl _) (.cells #[] 9)) (S:=fun k=>w.heap.size≤k)).then_grown hgr2 (fun k e=>by injection e with e;subst e;exact Nat.le_refl _)).below (fun k hk=>hk) (Nat.le_refl _)
  replace hO:=Lib.hid hO;replace hB:=Lib.hid hB;clear hown2 hgr2 hat2 hown hr1;go_wp2_with fail
  go_ret
  exact⟨_,rfl,hO.out,hB.out⟩
set_option maxRecDepth 100000 in
set_option maxHeartbeats 1000000 in
theorem cloneT_any {w:World}{v:Value}{N:Nat}{ts:List TI}(h:w.ownsRow 0 51 8 v N (tsL ts))(hl:N≤1000000) :
  Calls Tryz.prog 53 #[v] w fun e w'=>∃v',e=.returned v'∧w'.ownsRow w.heap.size 51 8 v' N (tsL ts)∧Below w.heap.size w w':=by
 rcases h.2 with⟨rfl,e⟩ | ⟨gg,cap,cur,rfl,_⟩
 ·subst e
  have hx:tsL ts=[]:=by
   have:=h.1
   simpa using this
  refine (cloneT_nil w).mono ?_;rintro e w' ⟨rfl,rfl⟩;refine⟨_,rfl,?_,Below.refl _ _⟩;rw[hx];exact World.ownsRow_nil _ _ _ 8
 ·have hr:=Reads.of_own h;obtain⟨i0,hi0,hz0,hz1,hz2⟩:=info_parts ti_info;have eN:∀(W:World) (a:Option Addr) (n c:Nat),(binOp .eql 40 (.slice a n c) (.slice none 0 0)).run Tryz.prog W=.ok (.bool a.isNone) W:=fun W a n c=>Lib.run_eql_slice_nil W _ _ a n c 0 0 Tryz.underlying40;have hr1:=hr.alloc (Nat.le_refl _) (.cells #[] 51);have hown:=own_emptyG w 51 8;have hone:=Lib.hid (tsL_one ts);replace h:=Lib.hid h
  go_enter Tryz.func53,Tryz.ntmps53
  go_wp2_with (at_builtin;refine wpList_append_any _ rfl (.tmp 5) (.tmp 6) 40 rfl w.heap.size 51 i0 _ 8 80 Tryz.underlying40 hi0 hz0 hz1 hz2 rfl (by omega) (.slice (some ⟨w.heap.size,0,none⟩) 0 0) 0 [] rfl hown w.heap.size (some ⟨gg,0,none⟩) N cap (tsL ts) rfl hr1 hone.out (by unfold maxLen;omega) (by omega) (by simp) ?_;intro v2 w2 hown2 hgr2 hat2)
  have hO:w2.ownsRow w.heap.size 51 8 v2 N (tsL ts):=by simpa using hown2
  have hB:Below w.heap.size w w2:=((KeptBut.of_below ((Below.refl w.heap.size w).alloc (Nat.le_refl _) (.cells #[] 51)) (S:=fun k=>w.heap.size≤k)).then_grown hgr2 (fun k e=>by injection e with e;subst e;exact Nat.le_refl _)).below (fun k hk=>hk) (Nat.le_refl _)
  replace hO:=Lib.hid hO;replace hB:=Lib.hid hB;clear hown2 hgr2 hat2 hown hr1;go_wp2_with fail
  go_ret
  exact⟨_,rfl,hO.out,hB.out⟩
section
variable {K:Nat→Prop}{w w':World}{g d:Nat}{s s':Dsk}{n:Nat}{lv:Int}{vl:Value}{os:List EL}{J:JW}{done over dead:Bool}{ok:Prop}
set_option maxRecDepth 100000 in
set_option maxHeartbeats 1000000 in
theorem Files_any (h:JRun K w g d s n lv vl os J done over dead ok)(hl:J.fs.length≤1000000) :
  Calls Tryz.prog 19 #[.pointer (some ⟨g,0,none⟩)] w fun e w'=>∃A c,e=.returned (.slice A J.fs.length c)∧w'.ownsRow w.heap.size 9 1 (.slice A J.fs.length c) J.fs.length (fsL J.fs)∧Below w.heap.size w w':=by
 obtain⟨F,gb,vt,vf,h1,h2⟩:=h;have c8:w.cell? ⟨g,8,none⟩=some vf:=h1.box.cell 8;have hgl:=h1.box.lt;have hc:=Lib.hid (cloneS_any h1.files hl);replace h1:=Lib.hid h1;clear h2
 go_enter Tryz.func19,Tryz.ntmps19
 go_wp2_with fail
 refine hc.out.mono ?_;rintro e w1 ⟨v',rfl,ho,hb⟩
 obtain⟨A,c,rfl⟩:∃A c,v'=.slice A J.fs.length c:=by
  rcases ho.2 with⟨rfl,e⟩ | ⟨gg,cap,cur,rfl,_⟩
  ·exact⟨none,0,by rw[e]⟩
  ·exact⟨_,cap,rfl⟩
 replace ho:=Lib.hid ho;replace hb:=Lib.hid hb;go_wp2_with fail
 go_ret
 exact⟨_,_,rfl,ho.out,hb.out⟩
set_option maxRecDepth 100000 in
set_option maxHeartbeats 1000000 in
theorem Tables_any (h:JRun K w g d s n lv vl os J done over dead ok)(hl:J.ts.length≤1000000) :
  Calls Tryz.prog 20 #[.pointer (some ⟨g,0,none⟩)] w fun e w'=>∃A c,e=.returned (.slice A J.ts.length c)∧w'.ownsRow w.heap.size 51 8 (.slice A J.ts.length c) J.ts.length (tsL J.ts)∧Below w.heap.size w w':=by
 obtain⟨F,gb,vt,vf,h1,h2⟩:=h;have c7:w.cell? ⟨g,7,none⟩=some vt:=h1.box.cell 7;have hgl:=h1.box.lt;have hc:=Lib.hid (cloneT_any h1.tabs hl);replace h1:=Lib.hid h1;clear h2
 go_enter Tryz.func20,Tryz.ntmps20
 go_wp2_with fail
 refine hc.out.mono ?_;rintro e w1 ⟨v',rfl,ho,hb⟩
 obtain⟨A,c,rfl⟩:∃A c,v'=.slice A J.ts.length c:=by
  rcases ho.2 with⟨rfl,e⟩ | ⟨gg,cap,cur,rfl,_⟩
  ·exact⟨none,0,by rw[e]⟩
  ·exact⟨_,cap,rfl⟩
 replace ho:=Lib.hid ho;replace hb:=Lib.hid hb;go_wp2_with fail
 go_ret
 exact⟨_,_,rfl,ho.out,hb.out⟩
end
def fewE (c:UInt8)(n:Nat):List Ent:=(List.range n).map fun i=>⟨[c,UInt8.ofNat (97+i)],[118],i+1,false⟩
theorem fewE_succ (c:UInt8)(n:Nat):fewE c (n+1)=fewE c n++[⟨[c,UInt8.ofNat (97+n)],[118],n+1,false⟩]:=by
 unfold fewE;rw[List.range_succ,List.map_append];rfl
theorem fewE_len (c:UInt8)(n:Nat):(fewE c n).length=n:=by unfold fewE;simp
theorem two_bytes (w:World)(b:Nat)(x y:Int)(u v:UInt8)(hx:x=u.toNat)(hy:y=v.toNat)(h0:w.cell? ⟨b,0,none⟩=some (.int .u8 x))(h1:w.cell? ⟨b,1,none⟩=some (.int .u8 y)):(convert 81 9 (.slice (some ⟨b,0,none⟩) 2 2)).run Tryz.prog w=.ok (.string (bs [u,v])) w:=by
 subst hx hy
 have:=run_convert_bytes_arg (P:=Tryz.prog) w 81 5 Tryz.underlying81 Tryz.underlying5 b 0 2 2 [(u.toNat:Int),(v.toNat:Int)] (by simp) (fun i hi=>by
  rcases i with _ | _ | i
  ·simpa using h0
  ·simpa using h1
  ·omega) 9 Tryz.underlying9
 rw[this];simp[strOfNums,bs]
set_option maxRecDepth 100000 in
set_option maxHeartbeats 4000000 in
theorem few_any (c:UInt8)(N:Nat)(hN:N≤20)(w:World) :
  Calls Tryz.prog 37 #[.int .u8 (c.toNat:Nat),.int .i64 (N:Nat)] w fun e w'=>∃A cap,e=.returned (.slice A N cap)∧OwnF w' w.heap.size (.slice A N cap) (fewE c N)∧Below w.heap.size w w':=by
 obtain⟨i0,hi0,hz0,hz1,hz2⟩:=info_parts ent_info;obtain⟨C,hC⟩:∃C:Int,((c.toNat:Nat):Int)=C:=⟨_,rfl⟩;rw[hC];replace hC:=Lib.hid hC
 go_enter Tryz.func37,Tryz.ntmps37
 go_wp2_with fail
 go_loopw [5,6] (fun lv iv wr=>∃(i:Nat),i≤N∧iv=.int .i64 (i:Nat)∧wr.ownsRow w.heap.size 46 4 lv (fewE c i).length (entsF (fewE c i))∧Below w.heap.size w wr) (fun _ iv _=>N-(intOf iv).toNat)
 case atStart=>exact⟨0,Nat.zero_le _,rfl,World.ownsRow_nil _ _ _ 4,Below.refl _ _⟩
 case round =>
  obtain⟨i,hi,rfl,ho,hb⟩:=hrel;have hz:=hb.size;rw[fewE_len] at ho
  obtain⟨VA,Vc,hvf⟩:∃A c,u5=.slice A i c:=by
   rcases ho.2 with⟨rfl,e⟩ | ⟨g,cap,cur,rfl,_⟩
   ·exact⟨none,0,by rw[e]⟩
   ·exact⟨_,cap,rfl⟩
  subst hvf
  by_cases hlt:i<N
  ·have hlt':(i:Int)<N:=by omega
   have hwa:((97+i:Nat):Int)=((UInt8.ofNat (97+i)).toNat:Int):=by
    rw[UInt8.toNat_ofNat'];omega
   obtain⟨U,hU⟩:∃U,UInt8.ofNat (97+i)=U:=⟨_,rfl⟩;have hsu:=fewE_succ c i;rw[hU] at hwa hsu
   have hcv:(convert 81 9 (.slice (some ⟨wr.heap.size,0,none⟩) 2 2)).run Tryz.prog (wr.alloc (.cells #[.int .u8 C,.int .u8 (97+(i:Int))] 5))=.ok (.string (bs [c,U])) (wr.alloc (.cells #[.int .u8 C,.int .u8 (97+(i:Int))] 5)) :=
    two_bytes _ _ _ _ c U hC.out.symm (by rw[←hwa];push_cast;rfl) ((Blk.new wr 5 #[.int .u8 C,.int .u8 (97+(i:Int))]).cell 0) ((Blk.new wr 5 #[.int .u8 C,.int .u8 (97+(i:Int))]).cell 1)
   obtain⟨E,hE⟩:∃E:Ent,(⟨[c,U],[118],i+1,false⟩:Ent)=E:=⟨_,rfl⟩
   have e1:E.key=[c,U]:=by rw[←hE]
   have e2:E.value=[118]:=by rw[←hE]
   have e3:E.seq=i+1:=by rw[←hE]
   have e4:E.gone=false:=by rw[←hE]
   rw[hE] at hsu;obtain⟨w1,hw1⟩:∃w1,wr.alloc (.cells #[.int .u8 C,.int .u8 (97+(i:Int))] 5)=w1:=⟨_,rfl⟩
   have hb1:Below wr.heap.size wr w1:=by rw[←hw1];exact (Below.refl _ _).alloc (Nat.le_refl _) _
   have hzb:=hb1.size;have ho1:=own_block ho (fun j hj=>hb1.block j (own_lt ho j hj).2);have ho2:=own_block (w':=w1.alloc (.cells #[.string (bs [c,U]),.string ⟨#[118]⟩,.int .u64 ((i:Int)+1),.bool false] 46)) ho1 (fun j hj=>Below.heap_alloc w1 _ j (own_lt ho1 j hj).2)
   have hone:Reads (w1.alloc (.cells #[.string (bs [c,U]),.string ⟨#[118]⟩,.int .u64 ((i:Int)+1),.bool false] 46)) (w1.heap.size+1) 4 (some ⟨w1.heap.size,0,none⟩) 1 [.string (bs [c,U]),.string ⟨#[118]⟩,.int .u64 ((i:Int)+1),.bool false]:=by
    have h:=one_ent w1 46 E;unfold enC at h;rw[e1,e2,e3,e4] at h;rw[show ((i+1:Nat):Int)=(i:Int)+1 by push_cast;rfl] at h;exact h
   have hbw1:=hb.trans (hb1.mono hz);rw[hw1] at hcv;replace hU:=Lib.hid hU;replace hwa:=Lib.hid hwa;replace hE:=Lib.hid hE;replace e1:=Lib.hid e1;replace e2:=Lib.hid e2;replace e3:=Lib.hid e3;replace e4:=Lib.hid e4;replace hsu:=Lib.hid hsu;replace ho:=Lib.hid ho;replace ho1:=Lib.hid ho1;replace ho2:=Lib.hid ho2;replace hone:=Lib.hid hone;replace hb:=Lib.hid hb;replace hb1:=Lib.hid hb1;replace hbw1:=Lib.hid hbw1
   go_wp2_with (at_builtin;refine wpList_append_any _ rfl (.tmp 12) (.tmp 23) _ rfl w.heap.size 46 i0 _ 4 48 Tryz.underlying44 hi0 hz0 hz1 hz2 rfl (by omega) _ i (entsF (fewE c i)) rfl ho2.out (w1.heap.size+1) (some ⟨w1.heap.size,0,none⟩) 1 1 [.string (bs [c,U]),.string ⟨#[118]⟩,.int .u64 ((i:Int)+1),.bool false] rfl ?c0 ?c1 ?c2 ?c3 ?c4 ?_;rotate_left 5;intro v2 w3 ho3 hg3 hat3)
   case c0=>exact hone.out
   case c1=>intro u hu;simp at hu;rcases hu with rfl | rfl | rfl | rfl<;>rfl
   case c2=>simp only[maxLen];omega
   case c3=>omega
   case c4=>first | omega | (simp;have:=hbw1.out.size;omega)
   have hb3:Below w.heap.size w w3:=(hbw1.out.alloc (by have:=hbw1.out.size;omega) _).grown hg3 (by simp;have:=hbw1.out.size;omega) (fun j hj=>(own_lt ho2.out j hj).1)
   have he3:(fewE c (i+1)).length=i+1∧entsF (fewE c (i+1))=entsF (fewE c i)++[.string (bs [c,U]),.string ⟨#[118]⟩,.int .u64 ((i:Int)+1),.bool false]:=by
    refine⟨fewE_len _ _,?_⟩;rw[hsu.out];unfold entsF;rw[List.flatMap_append]
    congr 1
    show enC E++[]=_;unfold enC;rw[e1.out,e2.out,e3.out,e4.out,List.append_nil,show ((i+1:Nat):Int)=(i:Int)+1 by push_cast;rfl];rfl
   exact⟨⟨i+1,by omega,by go_num,by rw[he3.1,he3.2];exact ho3,hb3⟩,by simp[intOf];omega⟩
  ·obtain rfl:i=N:=by omega
   have hlt':¬(i:Int)<i:=by omega
   rw[show wr.ownsRow w.heap.size 46 4 (.slice VA i Vc) i (entsF (fewE c i))=wr.ownsRow w.heap.size 46 4 (.slice VA i Vc) i (entsF (fewE c i)) from rfl] at ho;replace ho:=Lib.hid ho;replace hb:=Lib.hid hb;go_wp2_with fail
   go_ret
   exact⟨_,_,rfl,.of_own (by rw[fewE_len];exact ho.out),hb.out⟩
theorem new_run {B1:Nat}{w:World}{A:Option Addr}{ls:List EL}{cap d:Nat}{s:Dsk}(lv:Int)(n:Nat)(hD:Dx (fun k=>k<B1) w d s)(h:LsAt w w.heap.size A ls)(hn:ls.length≤6)(hok:∀x∈ls,0<x.l.length→OkL x.l)(hl:∀x∈ls,x.l.length≤60)(hG:Gl w)(h5:Tab w)(hB:7≤B1)(hBw:B1≤w.heap.size) :
  Calls Tryz.prog 14 #[.pointer (some ⟨d,0,none⟩),.int .i64 lv,.int .u64 (n:Nat),.slice A ls.length cap] w fun e w'=>∃K vl os,e=.returned (.pointer (some ⟨w.heap.size,0,none⟩))∧(∀k,k<B1→K k) ∧
   JRun K w' w.heap.size d s n lv vl os ⟨0,0,[],[]⟩ false false false True∧JK K w' vl os∧os.map (·.l)=(ls.filter fullP).map (·.l)∧Below w.heap.size w w':=by
 refine (JNew_any (some ⟨d,0,none⟩) lv n h hn hl).mono ?_;rintro e w' ⟨vl,os,rfl,hJ,ho,hom,hb⟩;have hz:=hb.size;have hJl:=hJ.lt;refine⟨fun k=>k<B1∨(w.heap.size<k∧k<w'.heap.size),vl,os,rfl,fun k q=>.inl q,⟨fun _=>False,none,.slice none 0 0,.slice none 0 0,⟨?_,fun k q=>⟨?_,?_,id⟩,fun k q=>q.elim,hJ,World.ownsRow_nil _ _ _ 8,World.ownsRow_nil _ _ _ 1⟩,fun _ q=>absurd rfl q⟩,?_,hom,hb⟩
 ·refine hD.grow hb (fun k q=>?_);rcases q with (q | q) | (q | q | q) | q
  ·exact .inl q
  ·exact .inr (by omega)
  ·exact .inr (by omega)
  ·cases q
  ·cases q
  ·exact q.elim
 ·rcases q with q | q<;>omega
 ·rintro (e | e | e)
  ·rcases q with q | q<;>omega
  ·cases e
  ·cases e
 ·have hlen:os.length≤6:=by
   have h1:=congrArg List.length hom;have h2:=List.length_filter_le fullP ls;rw[List.length_map,List.length_map] at h1;omega
  refine⟨⟨⟨ho.row.1,?_⟩,fun x hx=>(ho.each x hx).less (Nat.zero_le _)⟩,fun k q=>.inr ⟨?_,?_⟩,fun x hx k q=>.inr ?_,fun x hx=>?_,hlen,hG.below hb (by omega),h5.low hb (by omega),fun k q=>.inl (by omega),by omega⟩
  ·rcases ho.row.2 with q | ⟨g,cap,cur,q1,q2,q3⟩
   ·exact .inl q
   ·exact .inr ⟨g,cap,cur,q1,Nat.zero_le _,q3⟩
  ·have:=(own_lt ho.row k q).1;omega
  ·exact (own_lt ho.row k q).2
  ·rcases ho.each x hx with e | ⟨g,cap,e1,e2,e3,e4⟩
   ·rw[e.1] at q;cases q
   ·rw[e1] at q;simp only[Value.ownBlock,Option.some.injEq] at q;subst q;obtain⟨cs,hbb,_⟩:=e4.blk;exact⟨by omega,hbb.lt⟩
  ·have hm:x.l∈os.map (·.l):=List.mem_map.2 ⟨x,hx,rfl⟩;rw[hom] at hm;obtain⟨y,hy,e⟩:=List.mem_map.1 hm;obtain⟨hy1,hy2⟩:=List.mem_filter.1 hy;rw[←e];exact hok y hy1 (by unfold fullP at hy2;simpa using hy2)
theorem JOk.zero {ls:List (List Ent)}(h:LsOk ls):JOk ls ⟨0,0,[],[]⟩ :=
 ⟨Nat.zero_le _,fun hl=>(h.at_ hl).pos,fun _=>rfl,rfl,by simp,fun f hf=>by cases hf⟩
end Go.Proofs.YtlpojfgeocpkeaaGreatDoor
namespace Go.Proofs.YtlpojfgeocpkeaaGreatDoor
open Go.ChangeShapes Go.WideShapes Go.ChangeAt Go.RowKit Go.Joins
set_option linter.unusedVariables false
theorem Tryzown:ownKnob Tryz.prog.godebug=none:=by kernel_rfl
theorem Tryzlaid:laidOutB Tryz.prog=true:=by kernel_rfl
section
variable {H:Type}{enc:TypeId × Value→H}{P:Program}
theorem trodAll_below (hl:laidOutB P=true){W W':World}(hb:Below W.heap.size W W'):∀(ts:List TypeId) (vs:List Value) (ds:List (DataW H)) (ps:List MemPlace),
  (∀t∈ts,P.readableRec t=true∧t<P.types.size)→DataW.TrodAll enc P W 0 (fun _=>true) true ts vs ds ps→(∀x∈ps,x.block<W.heap.size) →
  DataW.TrodAll enc P W' 0 (fun b=>decide (b<W.heap.size)) true ts vs ds ps:=by
 intro ts
 induction ts with
 | nil =>
  intro vs ds ps _ h _
  cases vs<;>cases ds<;>first | exact h | exact h.elim
 | cons t ts ih =>
  intro vs ds ps ht h hx
  cases vs with
  | nil=>exact h.elim
  | cons v vs =>
   cases ds with
   | nil=>exact h.elim
   | cons d ds =>
    obtain⟨p,q,hd,hr,rfl⟩:=h;have h0:=ht t (List.mem_cons_self ..);exact⟨p,q,Below.trod hl h0.1 h0.2 hd hb (fun x hm=>hx x (List.mem_append_left _ hm)),ih vs ds q (fun t' hm=>ht t' (List.mem_cons_of_mem _ hm)) hr (fun x hm=>hx x (List.mem_append_right _ hm)),rfl⟩
theorem law_post (hl:laidOutB P=true){f:Func}{s:ChangeSpec}{W W':World}{args:Array Value}{ds gs:List (DataW H)}{before:List MemPlace}{tb:TypeId}
  (hbool:P.underlying tb=some .bool)
  (hW:DataW.Whole enc P f.params.toList s.vars false W args.toList ds gs before) (hv:s.vars=[]) (hr:f.resultTypes=#[tb])
  (hread0:(f.params.toList.all fun t=>P.readableRec t&&decide (t<P.types.size))=true)
  (hfn:s.fn H (ds++gs)={ results:=[.lit (.bool true)],args:=ds }) (hb:Below W.heap.size W W') :
  s.post enc P f false true false false W args (.bool true) W':=by
 have hread:∀t∈f.params.toList,P.readableRec t=true∧t<P.types.size:=fun t ht=>by simpa using List.all_eq_true.1 hread0 t ht
 have hlt:=hW.lt;obtain⟨p,q,hA,hV,hpq,hz,hnd⟩:=hW;rw[hv] at hV
 cases gs with
 | cons _ _=>exact hV.elim
 | nil =>
  have hq:q=[]:=hV;subst hq;refine⟨ds,[],before,[],p,[],⟨p,[],hA,by rw[hv];exact rfl,hpq,hz,hnd⟩,?_,?_,?_,?_,fun h=>by cases h⟩
  ·rw[hfn,hr];exact trodAll_mk1 (shut_bool hbool true)
  ·rw[hfn];exact trodAll_below hl hb _ _ _ _ hread hA (fun x hx=>by simpa using hlt x (by rw[hpq];exact List.mem_append_left _ hx))
  ·rw[hfn,hv];exact rfl
  ·exact hb.frame _
end
end Go.Proofs.YtlpojfgeocpkeaaGreatDoor
namespace Go.Proofs.YtlpojfgeocpkeaaGreatDoor
open Go.ChangeShapes Go.WideShapes Go.ChangeAt Go.RowKit Go.Joins Go.Deep
open Go.ChangeMaps (open_string)
set_option linter.unusedVariables false
set_option linter.unusedSimpArgs false
theorem plain_of_cell {w:World}{a:Addr}{v:Value}(h:w.cell? a=some v):a=⟨a.block,a.off,none⟩:=by
 obtain⟨b,o,s⟩:=a
 cases s with
 | none=>rfl
 | some s =>
  unfold World.cell? at h
  split at h<;>simp at h
theorem list_of {T:Type}{P:Nat→T→Prop}:∀(n:Nat),(∀i,i<n→∃x,P i x)→∃l:List T,l.length=n∧∀i x,l[i]? = some x→P i x
 | 0,_=>⟨[],rfl,fun i x h=>by simp at h⟩
 | n+1,h=>by
  obtain⟨l,hl,hp⟩:=list_of n (fun i hi=>h i (by omega));obtain⟨x,hx⟩:=h n (by omega);refine⟨l++[x],by simp[hl],fun i y hy=>?_⟩
  by_cases hi:i<l.length
  ·rw[List.getElem?_append_left hi] at hy;exact hp i y hy
  ·rw[List.getElem?_append_right (by omega)] at hy
   have:i-l.length=0:=by
    rcases Nat.eq_zero_or_pos (i-l.length) with h0 | h0
    ·exact h0
    ·rw[List.getElem?_eq_none (by simp;omega)] at hy;cases hy
   rw[this] at hy;simp at hy;subst hy
   have:i=n:=by omega
   subst this;exact hx
theorem mem_at {T:Type}{P:Nat→T→Prop}{l:List T}(h:∀i x,l[i]? = some x→P i x){x:T}(hx:x∈l):∃i,P i x:=by
 obtain⟨i,hi,rfl⟩:=List.mem_iff_getElem.1 hx;exact⟨i,h i _ (List.getElem?_eq_getElem hi)⟩
theorem flat_at {T:Type}{f:T→List Value}{m:Nat}(hm:0<m)(hf:∀x,(f x).length=m):∀(l:List T) (j:Nat) (u:Value),(l.flatMap f)[j]? = some u→∃x,l[j / m]? = some x∧(f x)[j % m]? = some u
 | [],j,u,h=>by simp at h
 | a::l,j,u,h=>by
  rw[List.flatMap_cons] at h
  by_cases hj:j<m
  ·rw[List.getElem?_append_left (by rw[hf];exact hj)] at h;exact⟨a,by rw[Nat.div_eq_of_lt hj];rfl,by rw[Nat.mod_eq_of_lt hj];exact h⟩
  ·rw[List.getElem?_append_right (by rw[hf];omega),hf] at h;obtain⟨x,h1,h2⟩:=flat_at hm hf l (j-m) u h;refine⟨x,?_,?_⟩
   ·have:j / m=(j-m) / m+1:=by rw[Nat.div_eq_sub_div hm (by omega)]
    rw[this]
    simpa using h1
   ·have:j % m=(j-m) % m:=Nat.mod_eq_sub_mod (by omega);rw[this];exact h2
theorem flat_len {T:Type}{f:T→List Value}{m:Nat}(hf:∀x,(f x).length=m)(l:List T):(l.flatMap f).length=l.length*m:=by
 induction l with
 | nil=>simp
 | cons a l ih=>rw[List.flatMap_cons,List.length_append,hf,ih,List.length_cons,Nat.add_mul];omega
theorem k9:Tryz.prog.cellsOf 9=1:=by kernel_rfl
section
variable {H:Type}{enc:TypeId × Value→H}{W:World}
theorem row_open {T:Type}{t e m n:Nat}{v:Value}{y:DataW H × List MemPlace}(ht:Tryz.prog.underlying t=some (.slice e))(hC:Tryz.prog.cellsOf e=m)(hm:0<m)(f:T→List Value)(hf:∀x,(f x).length=m)(Q:T→Prop)
  (hone:∀(n:Nat) (cs:List Value) (z:DataW H × List MemPlace),(∀x∈z.2,x.block<W.heap.size)→DataW.trod enc Tryz.prog W 0 (fun _=>true) true n e cs=some z→∃x,cs=f x∧Q x)
  (h:DataW.trod enc Tryz.prog W 0 (fun _=>true) true n t [v]=some y) (hp:∀x∈y.2,x.block<W.heap.size):∃(A:Option Addr) (l:List T) (cap:Nat),v=.slice A l.length cap∧Reads W W.heap.size m A l.length (l.flatMap f)∧l.length≤maxLen∧∀x∈l,Q x:=by
 rcases open_slice ht h with⟨hcs,hx⟩ | ⟨a,len,cap,mm,n',D,Pl,hcs,hb,hl,hcm,hmm,hx,hi⟩
 ·simp at hcs;subst hcs;exact⟨none,[],0,rfl,Reads.none_,by simp,by simp⟩
 ·simp at hcs;subst hcs;simp at hmm;subst hmm
  by_cases hn0:len=0
  ·subst hn0;exact⟨some a,[],mm,rfl,⟨by simp,fun h=>absurd h (by simp)⟩,by simp,by simp⟩
  have hall:∀k,k<len→∃x,Q x∧∀j u,(f x)[j]? = some u→W.cell? (a.add (k*m+j))=some u:=by
   intro k hk;obtain⟨cs',hc,ht'⟩:=hi k (by omega);rw[hC] at hc;obtain⟨_,hcl,hat⟩:=World.cells?_some hc
   obtain⟨x,rfl,hq⟩:=hone n' cs' _ (fun z hz=>hp z (by
    rw[hx]
    exact List.mem_append_right _ (List.mem_flatMap.2 ⟨k,List.mem_range.2 (by omega),hz⟩))) ht'
   refine⟨x,hq,fun j u hu=>?_⟩
   have hj:j<m:=by rw[←hf x];exact (List.getElem?_eq_some_iff.1 hu).1
   have:=hat j hj;rw[Go.Deep.add_add] at this;rw[this,hu]
  obtain⟨x0,_,h0⟩:=hall 0 (by omega);have hf0:(f x0)[0]? = some ((f x0)[0]'(by rw[hf];exact hm)):=List.getElem?_eq_getElem (by rw[hf];exact hm);have hc0:=h0 0 _ hf0
  have e0:a.add (0*m+0)=a:=by unfold Addr.add;simp
  rw[e0] at hc0;have hpl:=plain_of_cell hc0
  have hblk:a.block<W.heap.size:=hp (.cell a.block a.off) (by
   rw[hx];refine List.mem_append_left _ ?_;rw[hpl,hC];have:0<mm*m:=Nat.mul_pos (by omega) hm;simp[MemPlace.row]
   omega)
  obtain⟨l,hl2,hP⟩:=list_of len hall;refine⟨some a,l,mm,by rw[hl2],⟨flat_len hf l,fun hn=>⟨a,rfl,hblk,fun j u hu=>?_⟩⟩,by rw[hl2];omega,fun x hx=>?_⟩
  ·obtain⟨x,h1,h2⟩:=flat_at hm hf l j u hu;have:=(hP _ _ h1).2 _ _ h2;rw[show j / m*m+j % m=j from by rw[Nat.mul_comm];exact Nat.div_add_mod j m] at this;exact this
  ·obtain⟨i,hq,_⟩:=mem_at hP hx;exact hq
end
end Go.Proofs.YtlpojfgeocpkeaaGreatDoor
namespace Go.Proofs.YtlpojfgeocpkeaaGreatDoor
open Go.RowKit
set_option linter.unusedVariables false
set_option linter.unusedSimpArgs false
end Go.Proofs.YtlpojfgeocpkeaaGreatDoor
namespace Go.Proofs.YtlpojfgeocpkeaaGreatDoor
open Go.ChangeShapes Go.WideShapes Go.ChangeAt Go.RowKit Go.Joins Go.Deep
open Go.ChangeMaps (open_string)
set_option linter.unusedVariables false
set_option linter.unusedSimpArgs false
theorem k3:Tryz.prog.cellsOf 3=1:=by kernel_rfl
theorem k5:Tryz.prog.cellsOf 5=1:=by kernel_rfl
section
variable {H:Type}{enc:TypeId × Value→H}{W:World}
end
end Go.Proofs.YtlpojfgeocpkeaaGreatDoor
namespace Go.Proofs.YtlpojfgeocpkeaaGreatDoor
open Go
set_option linter.unusedVariables false
theorem rih_and_shaped {H:Type}{enc:TypeId × Value→H}{a:Assume}{C:Checked}{os:Os}{f:FuncId}{fn:Func}{s:ChangeSpec}{conds:List PathCond}{apart fresh handsOn again:Bool}{X:World→Array Value→Prop}
  (hX:∀(w w':World) (args:Array Value),w.heap=w'.heap→X w args→X w' args)
  (own:ownKnob C.prog.godebug=none) (started:os.Started) (noInit:C.prog.inits.idxOf? f=none) (hfn:C.prog.funcs[f]? = some fn)
  (witness:∃(w:World) (tape:Tape) (i:Input),w.os=os∧(w.forCall tape i).Shaped C.prog∧i.vars=[]∧Input.okWide C.prog (w.forCall tape i) .any w.heap.size f i ∧
   ((s.pre enc C.prog fn conds apart (w.forCall tape i).memory i.args∧X (w.forCall tape i).memory i.args)∧sizedMet enc C.prog fn (OpenSpec.ofChange s) apart (w.forCall tape i).memory i.args)∧a.holds C.prog (lone (Frame.enter C.prog f i.args .normal) [] (w.forCall tape i)))
  (contract:∀(W:World) (base:Nat) (args:Array Value) (ds gs:List (DataW H)) (before:List MemPlace),
   (∀(j:Nat) t v,fn.params[j]? = some t→args[j]? = some v→Value.okWide C.prog W .any base t v) →
   DataW.Whole enc C.prog fn.params.toList s.vars apart W args.toList ds gs before →
   conds.all (PathCond.test C.prog ⟨fn.params.toList,ds,s.plain.varTypes C.prog,gs⟩)=true →
   (DataW.weightsEach C.prog (fn.params.toList++s.plain.varTypes C.prog) (ds++gs)).all (·≤reachBytes)=true→X W args →
   W.ShapedOpen C.prog →
   a.holds C.prog (lone (Frame.enter C.prog f args .normal) [] W) →
   Calls C.prog f args W fun e W'=>∃v,e=.returned v∧s.post enc C.prog fn apart fresh handsOn again W args v W') :
  ReturnsInHanded a C os f .any (fun w args=>(s.pre enc C.prog fn conds apart w args∧X w args)∧sizedMet enc C.prog fn (OpenSpec.ofChange s) apart w args) (s.post enc C.prog fn apart fresh handsOn again):=by
 refine returnsInHanded_of_calls own started noInit witness ?_;intro w tape i _ hsh _ hok hpre hholds;obtain⟨_,_,_,fn',hfn',_,_,_,_,hval⟩:=hok;obtain rfl:fn'=fn:=Option.some.inj (hfn'.symm.trans hfn);obtain⟨⟨⟨ds,gs,before,hw,hc⟩,hx⟩,hz⟩:=hpre;refine (contract (w.forCall tape i) w.heap.size i.args ds gs before hval (DataW.Whole.of_heap (w':=w.forCall tape i) (by rfl) hw) hc (hz.weights hw) (hX _ _ _ (by rfl) hx) hsh hholds).mono fun e W' ⟨v,he,hp⟩=>?_;subst he;exact ChangeSpec.post_blind hp
end Go.Proofs.YtlpojfgeocpkeaaGreatDoor
namespace Go.Proofs.YtlpojfgeocpkeaaGreatDoor
open Go.ChangeShapes Go.WideShapes Go.ChangeAt Go.RowKit Go.Joins Go.Deep Go.Lib
open Go.ChangeMaps (open_string)
set_option linter.unusedVariables false
set_option linter.unusedSimpArgs false
theorem crcT_litsJ:(List.range 16).map (fun i=>(DataW.lit (.int .u32 (crcT i:Nat)):DataW Unit))=match (Rows.laid_copyhold_cell_table:DataW Unit) with
 | .agg l=>l
 | _=>[]:=rfl
set_option maxRecDepth 100000 in
theorem tab_ofJ {rest:List (String × DataW Unit)}{W:World}(h:laidMet Tryz.prog (("copyhold/cell.table",Rows.laid_copyhold_cell_table)::rest) W):TabAt W:=by
 obtain⟨ps,⟨g,t,cs,fuel,p,q,hg,ht,hv,hd,_,_⟩,_,_⟩:=h
 obtain rfl:=Option.some.inj ((show Tryz.prog.globalNamed "copyhold/cell.table"=some 1 by kernel_rfl).symm.trans hg)
 obtain rfl:=Option.some.inj ((show (Tryz.prog.globals[1]?).map (·.type)=some 228 by kernel_rfl).symm.trans ht);obtain⟨xs,m,_,ex,_,hl,hel⟩:=DataW.trod_array Tryz.underlying228 hd;intro r hr
 have c5:Tryz.prog.cellsOf 43=1:=by kernel_rfl
 have hE:=hel r hr;rw[c5,Nat.mul_one,List.getElem?_eq_getElem (by omega)] at hE;obtain⟨z,e1,e2,_⟩:=DataW.trod_int Tryz.underlying43 hE;have e3:(xs.map (·.1))=(List.range 16).map (fun i=>(DataW.lit (.int .u32 (crcT i:Nat)):DataW Unit)):=(DataW.agg.inj (Prod.mk.inj ex).1).symm.trans crcT_litsJ.symm
 have e4:(xs.map (·.1))[r]? = ((List.range 16).map (fun i=>(DataW.lit (.int .u32 (crcT i:Nat)):DataW Unit)))[r]? := by rw[e3]
 rw[List.getElem?_map,List.getElem?_map,List.getElem?_eq_getElem (by omega:r<xs.length),List.getElem?_range hr,e2] at e4
 have hz:z=(crcT r:Nat):=by simpa using e4
 rw[World.var?_cell hg hv r,←hz]
 have:cs.toList[r]? = some (.int .u32 z):=by
  have h0:((cs.toList.drop r).take 1)[0]? = some (.int .u32 z):=by rw[e1];rfl
  simpa using h0
 simpa using this
theorem ty_tabJ:(Tryz.prog.globals[0]?).map (·.type)=some 216:=by kernel_rfl
theorem g_dbJ:Tryz.prog.globalNamed "math/bits.deBruijn64tab"=some 6:=by kernel_rfl
theorem var_ltJ {P:Program}{g:Nat}{w:World}{n:String}{cs:Array Value}(hg:P.globalNamed n=some g)(h:w.var? P n=some cs):g<w.heap.size:=by
 unfold World.var? at h;simp only[hg,Option.bind_some] at h;rcases Nat.lt_or_ge g w.heap.size with h' | h'
 ·exact h'
 ·rw[Array.getElem?_eq_none h'] at h;simp at h
set_option maxRecDepth 100000 in
theorem job_glo {rest:List (String × DataW Unit)}{W:World}(h:laidMet Tryz.prog (("copyhold/cell.table",Rows.laid_copyhold_cell_table)::("math/bits.deBruijn32tab",Rows.laid_math_bits_deBruijn32tab)::("math/bits.deBruijn64tab",Rows.laid_math_bits_deBruijn64tab)::("internal/strconv.uint64pow10",Rows.laid_internal_strconv_uint64pow10)::rest) W)(hsh:W.ShapedOpen Tryz.prog):Gl W∧Tab W∧7≤W.heap.size:=by
 have h2:=h.tail.tail
 have htab:TabIs Tryz.prog W "internal/strconv.uint64pow10" .u64 pow10Tab:=tabIs_of_head g_tab ty_tabJ Tryz.underlying216 Tryz.underlying34 (by kernel_rfl) (by kernel_rfl) h2.tail
 refine⟨⟨tab_ofJ h,Go.Proofs.cell_of_shapedOpen_int (zero:=#[.int .i64 0]) (t:=3) hsh (of_decide_eq_true (by kernel_rfl)) (by kernel_rfl) rfl (by kernel_rfl) (by kernel_rfl) Tryz.underlying3⟩,htab,?_⟩;obtain⟨ps,⟨g',t',cs,fuel,p,q,hg',ht',hvar,_⟩,_⟩:=h2;exact var_ltJ g_dbJ hvar
theorem k_boolJ:Tryz.prog.cellsOf 4=1:=by kernel_rfl
theorem k_u64J:Tryz.prog.cellsOf 34=1:=by kernel_rfl
section
variable {H:Type}{enc:TypeId × Value→H}{W:World}
set_option maxRecDepth 100000 in
theorem ent_open {n:Nat}{cs:List Value}{y:DataW H × List MemPlace}(h:DataW.trod enc Tryz.prog W 0 (fun _=>true) true n 46 cs=some y):∃e:Ent,cs=enC e∧e.key.length≤9223372036854775807∧e.value.length≤9223372036854775807∧e.seq<18446744073709551616:=by
 obtain⟨xs,n',_,hx,hl,hlen,hf⟩:=DataW.trod_struct Tryz.underlying46 h;rw[(by kernel_rfl:Tryz.prog.cellsOf 46=4)] at hl
 match cs,hl with
 | [c0,c1,c2,c3],_ =>
  have h0:=hf 0 _ rfl;have h1:=hf 1 _ rfl;have h2:=hf 2 _ rfl;have h3:=hf 3 _ rfl
  match xs,hlen with
  | [z0,z1,z2,z3],_ =>
   replace h0:DataW.trod enc Tryz.prog W 0 (fun _=>true) true n' 9 [c0]=some z0:=by
    have h:DataW.trod enc Tryz.prog W 0 (fun _=>true) true n' 9 ((List.drop 0 [c0,c1,c2,c3]).take (Tryz.prog.cellsOf 9))=some z0:=h0;rw[k9] at h;exact h
   replace h1:DataW.trod enc Tryz.prog W 0 (fun _=>true) true n' 9 [c1]=some z1:=by
    have h:DataW.trod enc Tryz.prog W 0 (fun _=>true) true n' 9 ((List.drop 1 [c0,c1,c2,c3]).take (Tryz.prog.cellsOf 9))=some z1:=h1;rw[k9] at h;exact h
   replace h2:DataW.trod enc Tryz.prog W 0 (fun _=>true) true n' 34 [c2]=some z2:=by
    have h:DataW.trod enc Tryz.prog W 0 (fun _=>true) true n' 34 ((List.drop 2 [c0,c1,c2,c3]).take (Tryz.prog.cellsOf 34))=some z2:=h2;rw[k_u64J] at h;exact h
   replace h3:DataW.trod enc Tryz.prog W 0 (fun _=>true) true n' 4 [c3]=some z3:=by
    have h:DataW.trod enc Tryz.prog W 0 (fun _=>true) true n' 4 ((List.drop 3 [c0,c1,c2,c3]).take (Tryz.prog.cellsOf 4))=some z3:=h3;rw[k_boolJ] at h;exact h
   obtain⟨x0,e0,_,w0⟩:=DataW.trod_string Tryz.underlying9 h0;obtain⟨x1,e1,_,w1⟩:=DataW.trod_string Tryz.underlying9 h1;obtain⟨x2,e2,_,w2⟩:=DataW.trod_int Tryz.underlying34 h2;obtain⟨x3,e3,_⟩:=DataW.trod_bool Tryz.underlying4 h3;simp at e0 e1 e2 e3;subst e0 e1 e2 e3;have b2:=bounds_u64 w2;unfold maxLen at w0 w1;refine⟨⟨x0.data.toList,x1.data.toList,x2.toNat,x3⟩,?_,by simp only[dlen];omega,by simp only[dlen];omega,by simp only[];omega⟩;unfold enC;simp only[bs_of];rw[show ((x2.toNat:Nat):Int)=x2 from by omega]
def OkEL (W:World)(x:EL):Prop:=(Reads W W.heap.size 4 x.A x.l.length (entsF x.l))∧x.l.length≤9223372036854775807∧∀e∈x.l,e.key.length≤9223372036854775807∧e.value.length≤9223372036854775807∧e.seq<18446744073709551616
set_option maxRecDepth 100000 in
theorem list_open {n:Nat}{cs:List Value}{y:DataW H × List MemPlace}(h:DataW.trod enc Tryz.prog W 0 (fun _=>true) true n 44 cs=some y)(hc:∃v,cs=[v])(hp:∀x∈y.2,x.block<W.heap.size) :
  ∃x:EL,cs=elV x∧OkEL W x:=by
 obtain⟨v,rfl⟩:=hc;obtain⟨A,l,cap,rfl,e2,e3,e4⟩:=row_open (T:=Ent) Tryz.underlying44 (by kernel_rfl:Tryz.prog.cellsOf 46=4) (by omega) enC (fun _=>rfl) (fun e=>e.key.length≤9223372036854775807∧e.value.length≤9223372036854775807∧e.seq<18446744073709551616) (fun n cs z _ hz=>ent_open hz) h hp;exact⟨⟨l,A,cap⟩,rfl,e2,by unfold maxLen at e3;show l.length≤_;omega,e4⟩
end
set_option maxRecDepth 100000 in
theorem lists_open {H:Type}{enc:TypeId × Value→H}{W:World}{base:Nat}{v:Value}{d:DataW H}{p:List MemPlace}
  (hv:Value.okWide Tryz.prog W .any base 22 v) (h:DataW.Trod enc Tryz.prog W 0 (fun _=>true) true 22 v d p) (hp:∀x∈p,x.block<W.heap.size) :
  ∃A ls cap,v=.slice A ls.length cap∧LsAt W W.heap.size A ls∧ls.length≤9223372036854775807∧∀x∈ls,x.l.length≤9223372036854775807∧∀e∈x.l,e.key.length≤9223372036854775807∧e.value.length≤9223372036854775807:=by
 obtain⟨A,n,cap,rfl⟩:=okWide_slice Tryz.underlying22 hv;obtain⟨fuel,hf⟩:=h
 obtain⟨A',ls,cap',e,hr,hl,hq⟩:=row_open (T:=EL) Tryz.underlying22 (by kernel_rfl:Tryz.prog.cellsOf 44=1) (by omega) elV (fun _=>rfl) (OkEL W) (fun n cs z hz h=>list_open h (by
  rcases open_slice Tryz.underlying44 h with⟨hcs,_⟩ | ⟨a,len,cap,m,n',D,Pl,hcs,_⟩
  ·exact⟨_,hcs⟩
  ·exact⟨_,hcs⟩) hz) (y:=(d,p)) (by simpa[Value.cells] using hf) hp
 exact⟨A',ls,cap',e,⟨hr,fun x hx=>⟨(hq x hx).1,fun e he=>((hq x hx).2.2 e he).2.2⟩⟩,by unfold maxLen at hl;omega,fun x hx=>⟨(hq x hx).2.1,fun e he=>⟨((hq x hx).2.2 e he).1,((hq x hx).2.2 e he).2.1⟩⟩⟩
end Go.Proofs.YtlpojfgeocpkeaaGreatDoor
