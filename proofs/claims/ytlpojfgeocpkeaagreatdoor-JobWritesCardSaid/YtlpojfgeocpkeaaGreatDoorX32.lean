/- Contracts: slices.Clone of entries, job.New. Contracts of package job: number, Tables, Files at a nil job. Contracts of package job: off. Contracts of package job: lay. Contracts of package job: give. Contracts of package job: Drop; Files and Tables of a job that is over. A job under way in memory. Contracts of package job: finish. -/
import Derived.Test.YtlpojfgeocpkeaaGreatDoorX28
import Derived.Lib.SliceRun
import Derived.Test.YtlpojfgeocpkeaaGreatDoorW0J
import Derived.Test.YtlpojfgeocpkeaaGreatDoorX29
namespace Go.Proofs.YtlpojfgeocpkeaaGreatDoor
open Go.RowKit Go.Sort
set_option linter.unusedVariables false
set_option linter.unusedSimpArgs false
theorem own_emptyE (w:World)(t:TypeId):(w.alloc (.cells #[] t)).ownsRow w.heap.size t 4 (.slice (some ⟨w.heap.size,0,none⟩) 0 0) 0 [] :=
 ⟨rfl,.inr ⟨w.heap.size,0,#[],rfl,Nat.le_refl _,heap_alloc_new _ _,Nat.le_refl _,by unfold maxLen;omega,rfl,rfl⟩⟩
theorem entsF_one (l:List Ent):∀u∈entsF l,u.oneCell'=true:=by
 intro u hu;unfold entsF at hu;rw[List.mem_flatMap] at hu;obtain⟨e,_,hu⟩:=hu;simp[enC] at hu
 rcases hu with rfl | rfl | rfl | rfl<;>rfl
set_option maxRecDepth 100000 in
set_option maxHeartbeats 1000000 in
theorem cloneE_any {w:World}{a:Addr}{c N:Nat}{l:List Ent}(hr:Reads w w.heap.size 4 (some a) N (entsF l))(hN:l.length=N)(hl:N≤1000000) :
  Calls Tryz.prog 45 #[.slice (some a) N c] w fun e w'=>∃v',e=.returned v'∧OwnF w' w.heap.size v' l∧Below w.heap.size w w':=by
 obtain⟨i0,hi0,hz0,hz1,hz2⟩:=info_parts ent_info;have eN:∀(W:World) (a:Option Addr) (n c:Nat),(binOp .eql 44 (.slice a n c) (.slice none 0 0)).run Tryz.prog W=.ok (.bool a.isNone) W:=fun W a n c=>Lib.run_eql_slice_nil W _ _ a n c 0 0 Tryz.underlying44;have hr1:=hr.alloc (Nat.le_refl _) (.cells #[] 46);have hown:=own_emptyE w 46;have hone:=Lib.hid (entsF_one l)
 go_enter Tryz.func45,Tryz.ntmps45
 go_wp2_with (at_builtin;refine wpList_append_any _ rfl (.tmp 5) (.tmp 6) 44 rfl w.heap.size 46 i0 _ 4 48 Tryz.underlying44 hi0 hz0 hz1 hz2 rfl (by omega) (.slice (some ⟨w.heap.size,0,none⟩) 0 0) 0 [] rfl hown w.heap.size (some a) N c (entsF l) rfl hr1 hone.out (by unfold maxLen;omega) (by omega) (by simp) ?_;intro v2 w2 hown2 hgr2 hat2)
 have hO:OwnF w2 w.heap.size v2 l:=.of_own (by rw[hN];simpa using hown2)
 have hB:Below w.heap.size w w2:=((KeptBut.of_below ((Below.refl w.heap.size w).alloc (Nat.le_refl _) (.cells #[] 46)) (S:=fun k=>w.heap.size≤k)).then_grown hgr2 (fun k e=>by injection e with e;subst e;exact Nat.le_refl _)).below (fun k hk=>hk) (Nat.le_refl _)
 replace hO:=Lib.hid hO;replace hB:=Lib.hid hB;clear hown2 hgr2 hat2 hown hr1;go_wp2_with fail
 go_ret
 exact⟨_,rfl,hO.out,hB.out⟩
def jobC (dv:Value)(lv:Int)(n:Nat)(vl:Value)(li en:Nat)(gb:Option Addr)(vt vf:Value)(done over dead:Bool):Array Value :=
 #[dv,.int .i64 lv,.int .u64 (n:Nat),vl,.int .i64 (li:Nat),.int .i64 (en:Nat),.pointer gb,vt,vf,.bool done,.bool over,.bool dead]
set_option maxRecDepth 100000 in
set_option maxHeartbeats 8000000 in
theorem JNew_any {w:World}{A:Option Addr}{ls:List EL}{cap:Nat}(dp:Option Addr)(lv:Int)(n:Nat)(h:LsAt w w.heap.size A ls)(hn:ls.length≤6)(hl:∀x∈ls,x.l.length≤60) :
  Calls Tryz.prog 14 #[.pointer dp,.int .i64 lv,.int .u64 (n:Nat),.slice A ls.length cap] w fun e w'=>∃vl os,e=.returned (.pointer (some ⟨w.heap.size,0,none⟩)) ∧
   Blk w' w.heap.size 88 (jobC (.pointer dp) lv n vl 0 0 none (.slice none 0 0) (.slice none 0 0) false false false)∧OwnLL w' (w.heap.size+1) vl os∧os.map (·.l)=(ls.filter fullP).map (·.l)∧Below w.heap.size w w':=by
 obtain⟨j0,hj0,hy0,hy1,hy2⟩:=info_parts sl_info;obtain⟨N,hN⟩:∃N,ls.length=N:=⟨_,rfl⟩;rw[hN] at hn ⊢;have hnew:=Blk.new w 88 (jobC (.pointer dp) lv n (.slice none 0 0) 0 0 none (.slice none 0 0) (.slice none 0 0) false false false);have hbn:Below w.heap.size w (w.alloc (.cells (jobC (.pointer dp) lv n (.slice none 0 0) 0 0 none (.slice none 0 0) (.slice none 0 0) false false false) 88)):=(Below.refl _ _).alloc (Nat.le_refl _) _
 have hzn:(w.alloc (.cells (jobC (.pointer dp) lv n (.slice none 0 0) 0 0 none (.slice none 0 0) (.slice none 0 0) false false false) 88)).heap.size=w.heap.size+1:=by simp
 obtain⟨w0,hw0⟩:∃w0,w.alloc (.cells (jobC (.pointer dp) lv n (.slice none 0 0) 0 0 none (.slice none 0 0) (.slice none 0 0) false false false) 88)=w0:=⟨_,rfl⟩;rw[hw0] at hnew hbn hzn;unfold jobC at hw0;replace h:=Lib.hid h;replace hl:=Lib.hid hl;replace hnew:=Lib.hid hnew;replace hbn:=Lib.hid hbn
 go_enter Tryz.func14,Tryz.ntmps14
 go_wp2_with fail
 rw[show w.alloc (.cells #[.pointer dp,.int .i64 lv,.int .u64 (n:Nat),.slice none 0 0,.int .i64 0,.int .i64 0,.pointer none,.slice none 0 0,.slice none 0 0,.bool false,.bool false,.bool false] 88)=w0 from hw0];replace hw0:=Lib.hid hw0
 go_loopw [11,19] (fun _ iv wr=>∃(i:Nat) (vl:Value) (os:List EL),i≤N∧iv=.int .i64 (i:Nat)∧Blk wr w.heap.size 88 (jobC (.pointer dp) lv n vl 0 0 none (.slice none 0 0) (.slice none 0 0) false false false)∧OwnLL wr (w.heap.size+1) vl os∧os.map (·.l)=((ls.take i).filter fullP).map (·.l)∧Below w.heap.size w wr) (fun _ iv _=>N-(intOf iv).toNat)
 case atStart=>exact⟨0,.slice none 0 0,[],Nat.zero_le _,rfl,hnew.out,⟨World.ownsRow_nil _ _ _ 1,fun x hx=>by cases hx⟩,rfl,hbn.out⟩
 case round =>
  obtain⟨i,vl,os,hi,rfl,hjb,ho,hom,hbr⟩:=hrel;have hzr:=hbr.size;have hjl:=hjb.lt
  by_cases hlt:i<N
  ·have hlt':(i:Int)<N:=by omega
   have hil:i<ls.length:=by omega
   have hxi:=List.getElem?_eq_getElem hil;have hxm:=List.getElem_mem hil
   have hts:(ls.take (i+1)).filter fullP=(ls.take i).filter fullP++(if fullP ls[i] then [ls[i]] else []):=by
    rw[List.take_succ_eq_append_getElem hil,List.filter_append]
    congr 1
    cases hq:fullP ls[i]<;>simp[hq]
   have hos:os.length≤6:=by
    have h1:=congrArg List.length hom;have h2:=List.length_filter_le fullP (ls.take i);rw[List.length_take] at h2;rw[List.length_map,List.length_map] at h1;omega
   generalize ls[i]=x at *
   obtain⟨bb,oo,hA,hbb,hcell⟩:=(h.out.below hbr).at_ hxi;have hxl:=hl.out x hxm;have hxr:=(h.out.each x hxm).1
   have hbl:bb<wr.heap.size:=by omega
   obtain⟨M,hM⟩:∃M,x.l.length=M:=⟨_,rfl⟩;rw[hM] at hcell hxl hxr;rw[hA];replace hA:=Lib.hid hA;replace hxi:=Lib.hid hxi
   by_cases hp:0<M
   ·have hp':(0:Int)<M:=by omega
    have hf:fullP x=true:=by unfold fullP;rw[hM];simpa using hp
    rw[hf,if_pos rfl] at hts;obtain⟨ad,hxA,_⟩:=hxr.2 hp;rw[hxA] at hcell hxr;have c3:wr.cell? ⟨w.heap.size,3,none⟩=some vl:=hjb.cell 3
    have hwz:w.heap.size<wr.heap.size:=by omega
    obtain⟨OA,Oc,hof⟩:=ho.form;subst hof;replace hts:=Lib.hid hts;replace hf:=Lib.hid hf;replace hom:=Lib.hid hom;replace hjb:=Lib.hid hjb;replace ho:=Lib.hid ho;replace hxr:=Lib.hid hxr;replace hbr:=Lib.hid hbr;go_wp2_with fail
    have hxc:=@Ext.cell;have hxf:=@Ext.frozen;refine wp_hide (fun Q0 hQ0=>?_);refine wp_region_line (fun w'=>∃x:Ext _,w'=x.w) [some true,some false,some false,some false,some false,some false,none,none,none,none,none,none] 2 (by kernel_rfl) (by kernel_rfl) ⟨⟨_,(Below.refl _ _).drew⟩,rfl⟩ ?_;simp only[earlyL,tailL]
    repeat (first | ((with_reducible refine wpMix_p ?_);go_big_quiet_step (fail);refine wpQuiet_nil ?_) | ((with_reducible refine wpMix_e ?_);go_big_quiet_step ((first | fail));refine wpQuiet_nil ?_))
    refine wpMix_nil ?_;clear hxc hxf;intro wx hwx;obtain⟨x,hx⟩:=hwx;have hb:=x.below;rw[←hx] at hb;clear hx x;have hzx:=hb.size;have hcl:=Lib.hid (cloneE_any (c:=x.c) (Reads.more ((hxr.out.below hbr.out).below (hb.mono hzr)) (by omega)) hM (by omega));have hjx:=hjb.out.below hb hjb.out.lt;have hox:=ho.out.below hb;replace hjx:=Lib.hid hjx;replace hox:=Lib.hid hox;replace hb:=Lib.hid hb;refine wpTail_step ?_;intro Q1 hQ1;go_wp2_with fail
    refine hcl.out.mono ?_;rintro e' w2 ⟨v4,rfl,ho4,hb4⟩;have hz4:=hb4.size;have hC:=Lib.hid (hb.out.trans (hb4.mono hzx));have hj2:=hjx.out.below hb4 hjx.out.lt;have ho2:=hox.out.below hb4;obtain⟨A4,c4,hvf,_⟩:=ho4.reads;subst hvf;rw[hM] at ho4;rw[hM];replace ho4:=Lib.hid ho4;clear hb4 hcl;go_wp2_with fail
    refine hQ1 _ _ rfl (fun _=>⟨⟨_,hC.out⟩,rfl⟩) ?_;clear hQ1 Q1;have hD:=Lib.hid (hC.out.alloc (by omega) (.cells #[.slice A4 M c4] 44));have hoa:=own_block (w':=w2.alloc (.cells #[.slice A4 M c4] 44)) ho2.row (fun j hj=>Below.heap_alloc w2 _ j (own_lt ho2.row j hj).2);have hb5:Below w2.heap.size w2 (w2.alloc (.cells #[.slice A4 M c4] 44)):=(Below.refl _ _).alloc (Nat.le_refl _) _;have ho4a:=Lib.hid (ho4.out.below hb5);have ho5a:=Lib.hid (ho2.below hb5);have hj5:=hj2.below hb5 hj2.lt;replace hb5:=Lib.hid hb5;replace hj2:=Lib.hid hj2;replace ho2:=Lib.hid ho2;refine wpTail_step ?_;intro Q1 hQ1;go_wp2_with fail
    refine hQ1 _ _ rfl (fun _=>⟨⟨_,hD.out⟩,rfl⟩) ?_;clear hQ1 Q1;refine wpTail_step ?_;intro Q1 hQ1
    go_wp2_with (at_builtin;refine wpList_append_any _ rfl (.tmp 30) (.tmp 33) _ rfl (w.heap.size+1) 44 j0 _ 1 24 Tryz.underlying22 hj0 hy0 hy1 hy2 rfl (by omega) _ os.length (os.flatMap elV) rfl hoa (w2.heap.size+1) (some ⟨w2.heap.size,0,none⟩) 1 1 [.slice A4 M c4] rfl ?c0 ?c1 ?c2 ?c3 ?c4 ?_;rotate_left 5;intro v6 w6 ho6 hg6 hat6)
    case c0=>exact one_sl w2 _ _
    case c1=>first | rfl | (intro u hu;simp at hu;subst hu;rfl)
    case c2=>simp only[maxLen];omega
    case c3=>omega
    case c4=>first | omega | (simp;omega)
    obtain⟨A6,c6,hv6⟩:∃A c,v6=.slice A (os.length+1) c:=by
     rcases ho6.2 with⟨_,e⟩ | ⟨g,cap,cur,rfl,_⟩
     ·omega
     ·exact⟨_,cap,rfl⟩
    subst hv6;have hg6':(w2.alloc (.cells #[.slice A4 M c4] 44)).grownBy w6 (Value.slice OA os.length Oc).ownBlock:=hg6
    have hne:∀j,(Value.slice OA os.length Oc).ownBlock=some j→j≠w.heap.size:=fun j hj e=>by have:=(own_lt hoa j hj).1;omega
    have hj6:Blk w6 w.heap.size 88 (jobC (.pointer dp) lv n (.slice OA os.length Oc) 0 0 none (.slice none 0 0) (.slice none 0 0) false false false):=hj5.grown hg6' (fun e=>hne _ e.symm rfl)
    have hnew6:OwnLL w6 (w.heap.size+1) (.slice A6 (os.length+1) c6) (os++[⟨x.l,A4,c4⟩]):=by
     refine⟨?_,fun y hy=>?_⟩
     ·rw[List.length_append,List.flatMap_append,show [(⟨x.l,A4,c4⟩:EL)].flatMap elV=[.slice A4 M c4] by simp[elV,hM]];exact ho6
     ·rcases List.mem_append.1 hy with hy | hy
      ·exact (ho5a.out.each y hy).grown hg6' hoa
      ·rw[List.mem_singleton.1 hy];show OwnF w6 _ (.slice A4 x.l.length c4) x.l;rw[hM];exact (ho4a.out.less (by omega)).grown hg6' hoa
    have hb6:Below w.heap.size w w6:=((hbr.out.trans (hD.out.mono hzr))).grown hg6' (by simp;omega) (fun j hj=>by have:=(own_lt hoa j hj).1;omega);have hz6:=hb6.size;have hg6z:=hg6'.size;clear ho6 hg6 hg6' hat6 hoa;refine hQ1 _ _ rfl (fun h=>absurd h (by decide)) ?_;clear hQ1 Q1;have e6:w6.cell? ⟨w.heap.size,3,none⟩=some (.slice OA os.length Oc):=hj6.cell 3;have hf6:=hj6.frozen 3;have hl6:=hj6.lt;have hj7:Blk (w6.setCell ⟨w.heap.size,3,none⟩ (.slice A6 (os.length+1) c6)) w.heap.size 88 (jobC (.pointer dp) lv n (.slice A6 (os.length+1) c6) 0 0 none (.slice none 0 0) (.slice none 0 0) false false false):=hj6.set_ 3 (.slice A6 (os.length+1) c6);have hb7:Below w.heap.size w (w6.setCell ⟨w.heap.size,3,none⟩ (.slice A6 (os.length+1) c6)):=hb6.setCell (Nat.le_refl _) _
    have hnew7:OwnLL (w6.setCell ⟨w.heap.size,3,none⟩ (.slice A6 (os.length+1) c6)) (w.heap.size+1) (.slice A6 (os.length+1) c6) (os++[⟨x.l,A4,c4⟩]):=by
     refine⟨own_block hnew6.row (fun j hj=>Below.heap_setCell _ _ _ _ (by have:=(own_lt hnew6.row j hj).1;show j≠w.heap.size;omega)),fun y hy=>?_⟩;rcases hnew6.each y hy with q | ⟨gq,cq,e1,e2,e3,e4⟩
     ·exact .inl q
     ·obtain⟨cs,hb,h1,h2⟩:=e4.blk;exact .inr ⟨gq,cq,e1,e2,e3,e4.le,cs,hb.far (by show gq≠w.heap.size;omega) _,h1,h2⟩
    have hmn:(os++[(⟨x.l,A4,c4⟩:EL)]).map (·.l)=((ls.take (i+1)).filter fullP).map (·.l):=by
     rw[hts.out,List.map_append,List.map_append,hom.out];rfl
    replace hj6:=Lib.hid hj6;replace hj7:=Lib.hid hj7;replace hb7:=Lib.hid hb7;replace hnew6:=Lib.hid hnew6;replace hnew7:=Lib.hid hnew7;replace hmn:=Lib.hid hmn;replace hb6:=Lib.hid hb6;refine wpTail_step ?_;intro Q1 hQ1
    go_wp2_with (fail)
    refine hQ1 _ _ rfl (fun h=>absurd h (by decide)) ?_;clear hQ1 Q1;refine wpTail_step ?_;intro Q1 hQ1
    go_wp2_with (fail)
    refine hQ1 _ _ rfl (fun h=>absurd h (by decide)) ?_;clear hQ1 Q1;refine wpTail_step ?_;intro Q1 hQ1;go_wp2_with fail
    refine hQ1 _ _ rfl (fun h=>absurd h (by decide)) ?_;clear hQ1 Q1;refine wpTail_nil ?_;refine hQ0 _ _ ?_;clear hQ0 Q0;go_wp2_with fail
    exact⟨⟨i+1,_,_,by omega,by go_num,hj7.out,hnew7.out,hmn.out,hb7.out⟩,by simp[intOf];omega⟩
   ·have hp':¬(0:Int)<M:=by omega
    have hf:fullP x=false:=by unfold fullP;rw[hM];simpa using hp
    rw[hf] at hts;replace hts:=Lib.hid hts;replace hf:=Lib.hid hf;replace hbr:=Lib.hid hbr;replace ho:=Lib.hid ho;replace hom:=Lib.hid hom;replace hjb:=Lib.hid hjb;replace hxr:=Lib.hid hxr;go_wp2_with fail
    exact⟨⟨i+1,vl,os,by omega,by go_num,hjb.out,ho.out,by rw[hts.out,hom.out];simp,hbr.out⟩,by simp[intOf];omega⟩
  ·obtain rfl:i=N:=by omega
   have hlt':¬(i:Int)<i:=by omega
   rw[List.take_of_length_le (by omega)] at hom;replace hbr:=Lib.hid hbr;replace ho:=Lib.hid ho;replace hom:=Lib.hid hom;replace hjb:=Lib.hid hjb;go_wp2_with fail
   go_ret
   exact⟨rfl,vl,hjb.out,os,ho.out,hom.out,hbr.out⟩
set_option maxRecDepth 100000 in
set_option maxHeartbeats 1000000 in
theorem number_any {w:World}{g:Nat}{dv vl vt vf:Value}{lv:Int}{n li en:Nat}{gb:Option Addr}{done over dead:Bool}(h:Blk w g 88 (jobC dv lv n vl li en gb vt vf done over dead))(hn:n+li<9223372036854775808) :
  Calls Tryz.prog 70 #[.pointer (some ⟨g,0,none⟩)] w fun e w'=>e=.returned (.int .u64 ((n+li:Nat):Int))∧Below w.heap.size w w':=by
 have c2:w.cell? ⟨g,2,none⟩=some (.int .u64 (n:Nat)):=h.cell 2;have c4:w.cell? ⟨g,4,none⟩=some (.int .i64 (li:Nat)):=h.cell 4;have hl:=h.lt;replace h:=Lib.hid h
 go_enter Tryz.func70,Tryz.ntmps70
 go_wp2_with fail
 have hxc:=@Ext.cell;refine wp_region_ext (by kernel_rfl) (by kernel_rfl) ?_
 repeat (go_big_quiet_step ((first | fail)))
 refine wpQuiet_nil ?_;clear hxc;intro wx hwx;obtain⟨x,hx⟩:=hwx;have hb:=x.below;rw[←hx] at hb;clear hx x;replace hb:=Lib.hid hb;go_wp2_with fail
 go_ret
 exact⟨by first | rfl | (congr 2;push_cast;omega) | simp,hb.out⟩
set_option maxHeartbeats 400000 in
theorem Down_dx {X:Nat→Prop}{w:World}{d:Nat}{s:Dsk}(h:Dx X w d s):Calls Tryz.prog 32 #[.pointer (some ⟨d,0,none⟩)] w fun e w'=>e=.returned (.bool s.off)∧w=w':=by
 obtain⟨F,L,hL,hF⟩:=h;have hn:=none_any hL;have c4:=hL.box.cell 4;have hdl:=hL.lt;have c4':w.cell? ⟨d,4,none⟩=some (.bool s.off):=c4;replace hn:=Lib.hid hn
 go_enter Tryz.func32,Tryz.ntmps32
 go_wp2_with fail
 refine hn.out.mono ?_;rintro e w' ⟨rfl,rfl⟩;go_wp2_with fail
 go_ret
 exact⟨rfl,rfl⟩
set_option maxRecDepth 100000 in
set_option maxHeartbeats 1000000 in
theorem off_on {X:Nat→Prop}{w:World}{g d:Nat}{s:Dsk}{vl vt vf:Value}{lv:Int}{n li en:Nat}{gb:Option Addr}{done over:Bool}(hD:Dx X w d s)(h:Blk w g 88 (jobC (.pointer (some ⟨d,0,none⟩)) lv n vl li en gb vt vf done over false))(ho:s.off=false) :
  Calls Tryz.prog 46 #[.pointer (some ⟨g,0,none⟩)] w fun e w'=>e=.returned (.int .i64 0)∧w=w':=by
 have c0:w.cell? ⟨g,0,none⟩=some (.pointer (some ⟨d,0,none⟩)):=h.cell 0;have c11:w.cell? ⟨g,11,none⟩=some (.bool false):=h.cell 11;have hl:=h.lt;have hdn:=Down_dx hD;rw[ho] at hdn;replace hdn:=Lib.hid hdn;replace h:=Lib.hid h;replace hD:=Lib.hid hD
 go_enter Tryz.func46,Tryz.ntmps46
 go_wp2_with fail
 refine hdn.out.mono ?_;rintro e w' ⟨rfl,rfl⟩;go_wp2_with fail
 go_ret
 exact⟨rfl,rfl⟩
def laidE (s:Dsk)(name out:List UInt8):Dsk × Nat:=if out=[] then (s,0) else s.append name out
theorem laidE_good {s:Dsk}{m:Nat}(g:s.Good m)(name out:List UInt8):(laidE s name out).1.Good (m+1):=by
 unfold laidE;split
 ·exact g.more (by omega)
 ·exact g.append _ _
set_option maxRecDepth 100000 in
set_option maxHeartbeats 1000000 in
theorem lay_any {X:Nat→Prop}{w:World}{g d:Nat}{s:Dsk}{vl vt vf:Value}{lv:Int}{n li en:Nat}{gb:Option Addr}{done over dead:Bool}{m:Nat}(hD:Dx X w d s)(hX:∀k,X k→k<w.heap.size)(h:Blk w g 88 (jobC (.pointer (some ⟨d,0,none⟩)) lv n vl li en gb vt vf done over dead))(gd:s.Good m)(hm:m<1073741824)(name out:List UInt8)(hn:name.length≤1000)(ho:out.length≤1073741824) :
  Calls Tryz.prog 73 #[.pointer (some ⟨g,0,none⟩),.string (bs name),.string (bs out)] w fun e w'=>e=.returned (.int .i64 ((laidE s name out).2:Nat))∧Dx X w' d (laidE s name out).1∧Keeps X w w':=by
 have c0:w.cell? ⟨g,0,none⟩=some (.pointer (some ⟨d,0,none⟩)):=h.cell 0;have hl:=h.lt;have k3:(bs out).toList=out:=bs_toList _;have happ:=Append_dx hD hX gd hm (bs name) (by rw[bs_size];omega) (bs out) (by rw[bs_size];omega);rw[bs_data,bs_data] at happ;replace happ:=Lib.hid happ;replace h:=Lib.hid h;replace hD:=Lib.hid hD;unfold laidE
 by_cases ho0:out=[]
 ·rw[if_pos ho0];subst ho0
  go_enter Tryz.func73,Tryz.ntmps73
  go_wp2_with fail
  go_ret
  exact⟨rfl,hD.out,.refl _ _⟩
 ·rw[if_neg ho0]
  have hb1:(out==([]:List UInt8))=false:=by simpa using ho0
  have hb2:out.isEmpty=false:=by simpa using ho0
  go_enter Tryz.func73,Tryz.ntmps73
  go_wp2_with fail
  refine happ.out.mono ?_;rintro e w1 ⟨rfl,hD1,hk1⟩;replace hD1:=Lib.hid hD1;replace hk1:=Lib.hid hk1;go_wp2_with fail
  go_ret
  exact⟨rfl,hD1.out,hk1.out⟩
def delsE:List (List UInt8)→Dsk→Dsk × Bool
 | [],s=>(s,false)
 | n::r,s=>if (s.delete n).2=7 then ((s.delete n).1,true) else delsE r (s.delete n).1
theorem delsE_good:∀(l:List (List UInt8)) {s:Dsk} {m:Nat},s.Good m→(delsE l s).1.Good (m+l.length)
 | [],s,m,g=>g
 | n::r,s,m,g=>by
  unfold delsE;split
  ·exact (g.delete n).more (by rw[List.length_cons];omega)
  ·exact (delsE_good r (g.delete n)).more (by rw[List.length_cons];omega)
structure JBx (X:Nat→Prop)(w:World)(g d:Nat)(s:Dsk)(lv:Int)(n:Nat)(vl:Value)(li en:Nat)(gb:Option Addr)(vt vf:Value)(done over dead:Bool)(fs:List (List UInt8)):Prop where
 dx:Dx X w d s
 lt:∀k,X k→k<w.heap.size
 box:Blk w g 88 (jobC (.pointer (some ⟨d,0,none⟩)) lv n vl li en gb vt vf done over dead)
 own:X g
 files:w.ownsRow 0 9 1 vf fs.length (fs.map fun x=>.string (bs x))
 fx:∀k,vf.ownBlock=some k→X k
set_option maxRecDepth 100000 in
set_option maxHeartbeats 4000000 in
theorem give_any {X:Nat→Prop}{w:World}{g d:Nat}{s:Dsk}{vl vt vf:Value}{lv:Int}{n li en:Nat}{gb:Option Addr}{done over dead:Bool}{fs:List (List UInt8)}{m:Nat}(h:JBx X w g d s lv n vl li en gb vt vf done over dead fs)(gd:s.Good m)(hm:m+fs.length<1000000000)(hfn:∀f∈fs,f.length≤1000)(why:Nat)(hw:why≠7) :
  Calls Tryz.prog 48 #[.pointer (some ⟨g,0,none⟩),.int .i64 (why:Nat)] w fun e w' =>
   e=.returned (.int .i64 ((if (delsE fs s).2 then 7 else why:Nat):Int))∧Dx X w' d (delsE fs s).1∧Keeps (fun k=>X k∧k≠g) w w' ∧
   Blk w' g 88 (if (delsE fs s).2 then jobC (.pointer (some ⟨d,0,none⟩)) lv n vl li en gb vt vf done over true else jobC (.pointer (some ⟨d,0,none⟩)) lv n vl li en gb (.slice none 0 0) (.slice none 0 0) done true dead):=by
 obtain⟨hD,hX,hB,hg,ho,hfx⟩:=h;have c8:w.cell? ⟨g,8,none⟩=some vf:=hB.cell 8;have hl:=hB.lt
 have hw':¬(why:Int)=7:=by omega
 have hw2:((why:Int)==7)=false:=by simpa using hw'
 obtain⟨N,hN⟩:∃N,fs.length=N:=⟨_,rfl⟩
 obtain⟨FA,Fc,hvf⟩:∃A c,vf=.slice A N c:=by
  rcases ho.2 with⟨rfl,e⟩ | ⟨gg,cap,cur,rfl,_⟩
  ·exact⟨none,0,by rw[←hN,e]⟩
  ·exact⟨_,cap,by rw[hN]⟩
 subst hvf;obtain⟨res,hres⟩:∃res,delsE fs s=res:=⟨_,rfl⟩;rw[hres];obtain⟨rs,rd⟩:=res;simp only;replace ho:=Lib.hid ho;replace hD:=Lib.hid hD;replace hB:=Lib.hid hB;replace gd:=Lib.hid gd;replace hX:=Lib.hid hX;replace hfx:=Lib.hid hfx;replace hfn:=Lib.hid hfn;replace hres:=Lib.hid hres
 go_enter Tryz.func48,Tryz.ntmps48
 go_wp2_with fail
 go_loopw [6,18] (fun _ iv wr=>∃(k:Nat) (st:Dsk),k≤N∧iv=.int .i64 (k:Nat)∧Dx X wr d st∧Keeps X w wr∧st.Good (m+k)∧delsE (fs.drop k) st=(rs,rd)) (fun _ iv _=>N-(intOf iv).toNat)
 case atStart=>exact⟨0,s,Nat.zero_le _,rfl,hD.out,.refl _ _,gd.out,hres.out⟩
 case round =>
  obtain⟨k,st,hk,rfl,hDr,hkr,gr,heq⟩:=hrel;have hzr:=hkr.size;have hBr:=hkr.blk hB.out hg;have hgl:=hBr.lt
  by_cases hlt:k<N
  ·have hlt':(k:Int)<N:=by omega
   have hkn:k<fs.length:=by omega
   have hor:wr.ownsRow 0 9 1 (.slice FA N Fc) fs.length (fs.map fun x=>.string (bs x)):=hkr.own ho.out (fun j hj=>hfx.out j hj);rw[List.drop_eq_getElem_cons hkn] at heq;have hfm:=hfn.out _ (List.getElem_mem hkn)
   obtain⟨gg,cap,cur,hform,_,hgg,hnc,_,hcs,htk⟩:∃gg cap cur,Value.slice FA N Fc=.slice (some ⟨gg,0,none⟩) fs.length cap∧0≤gg∧wr.heap[gg]? = some (.cells cur 9 (0,0))∧fs.length≤cap∧cap≤maxLen∧cur.size=cap*1∧cur.toList.take (fs.length*1)=fs.map fun x=>.string (bs x):=by
    rcases hor.2 with⟨_,e⟩ | q
    ·omega
    ·exact q
   have q0:wr.cell? ⟨gg,k,none⟩=some (.string (bs fs[k])):=by
    rw[Blk.cell hgg k]
    have:(fs.map fun x=>Value.string (bs x))[k]? = some (.string (bs fs[k])):=by rw[List.getElem?_map,List.getElem?_eq_getElem hkn];rfl
    rw[←htk,List.getElem?_take,if_pos (by omega),Array.getElem?_toList] at this;exact this
   injection hform with hA hBq hC;clear hBq;subst hA hC
   generalize fs[k]=f at *
   unfold delsE at heq;have hdel:=Delete_dx hDr (fun j q=>by have:=hX.out j q;omega) gr (by omega) (bs f) (by rw[bs_size];omega);rw[bs_data] at hdel;have g2:=gr.delete f;obtain⟨y,hy⟩:∃y,st.delete f=y:=⟨_,rfl⟩;rw[hy] at hdel heq g2;obtain⟨s2,e2⟩:=y;simp only at hdel heq g2;have b0:wr.cell? ⟨g,0,none⟩=some (.pointer (some ⟨d,0,none⟩)):=hBr.cell 0;replace hdel:=Lib.hid hdel;replace heq:=Lib.hid heq;replace hy:=Lib.hid hy;replace hkr:=Lib.hid hkr;replace hBr:=Lib.hid hBr;replace hor:=Lib.hid hor;replace hgg:=Lib.hid hgg;replace htk:=Lib.hid htk;replace g2:=Lib.hid g2;replace gr:=Lib.hid gr;clear hDr hcs hnc htk hgg hor;go_wp2_with fail
   refine hdel.out.mono ?_;rintro e w2 ⟨rfl,hD2,hk2⟩;have hz2:=hk2.size;have hB2:=hk2.blk hBr.out hg;have hkf:=hkr.out.trans hk2 (fun _=>id);have hl2:=hB2.lt;have hf2:=hB2.frozen 11;have d11:w2.cell? ⟨g,11,none⟩=some (.bool dead):=hB2.cell 11
   by_cases he:e2=7
   ·subst he;have hh:=heq.out;rw[if_pos rfl] at hh;injection hh with h1 h2;subst h1 h2
    have hB3:Blk (w2.setCell ⟨g,11,none⟩ (.bool true)) g 88 (jobC (.pointer (some ⟨d,0,none⟩)) lv n vl li en gb vt (.slice (some ⟨gg,0,none⟩) N Fc) done over true):=hB2.set_ 11 (.bool true)
    have hD3:Dx X (w2.setCell ⟨g,11,none⟩ (.bool true)) d s2:=hD2.beside ((KeptBut.refl w2 (fun k=>k=g)).then_set rfl) (fun k q=>.inl (by rw[q];exact hg))
    have hk3:Keeps (fun k=>X k∧k≠g) w (w2.setCell ⟨g,11,none⟩ (.bool true)):=(hkf.less (fun k q=>q.1)).then_set (fun q=>q.2 rfl)
    replace hB3:=Lib.hid hB3;replace hD3:=Lib.hid hD3;replace hk3:=Lib.hid hk3;clear hB2 hD2 hk2;replace hkf:=Lib.hid hkf;go_wp2_with fail
    go_ret
    exact⟨rfl,hD3.out,hk3.out,hB3.out⟩
   ·have hh:=heq.out;rw[if_neg he] at hh
    have he':¬(e2:Int)=7:=by omega
    replace hh:=Lib.hid hh;replace hkf:=Lib.hid hkf;replace hB2:=Lib.hid hB2;clear hk2;go_wp2_with fail
    exact⟨⟨k+1,s2,by omega,by go_num,hD2,hkf.out,g2.out,hh.out⟩,by simp[intOf];omega⟩
  ·obtain rfl:k=N:=by omega
   have hlt':¬(k:Int)<k:=by omega
   rw[List.drop_of_length_le (by omega)] at heq;unfold delsE at heq;injection heq with h1 h2;subst h1 h2;have a10:wr.cell? ⟨g,10,none⟩=some (.bool over):=hBr.cell 10;have a8:wr.cell? ⟨g,8,none⟩=some (.slice FA k Fc):=hBr.cell 8;have a7:wr.cell? ⟨g,7,none⟩=some vt:=hBr.cell 7;have hf:=hBr.frozen
   have hB1:Blk (wr.setCell ⟨g,10,none⟩ (.bool true)) g 88 (jobC (.pointer (some ⟨d,0,none⟩)) lv n vl li en gb vt (.slice FA k Fc) done true dead):=hBr.set_ 10 (.bool true)
   have hB2:Blk ((wr.setCell ⟨g,10,none⟩ (.bool true)).setCell ⟨g,8,none⟩ (.slice none 0 0)) g 88 (jobC (.pointer (some ⟨d,0,none⟩)) lv n vl li en gb vt (.slice none 0 0) done true dead):=hB1.set_ 8 (.slice none 0 0)
   have hB3:Blk (((wr.setCell ⟨g,10,none⟩ (.bool true)).setCell ⟨g,8,none⟩ (.slice none 0 0)).setCell ⟨g,7,none⟩ (.slice none 0 0)) g 88 (jobC (.pointer (some ⟨d,0,none⟩)) lv n vl li en gb (.slice none 0 0) (.slice none 0 0) done true dead):=hB2.set_ 7 (.slice none 0 0)
   have hD3:Dx X (((wr.setCell ⟨g,10,none⟩ (.bool true)).setCell ⟨g,8,none⟩ (.slice none 0 0)).setCell ⟨g,7,none⟩ (.slice none 0 0)) d st:=hDr.beside ((((KeptBut.refl wr (fun k=>k=g)).then_set rfl).then_set rfl).then_set rfl) (fun k q=>.inl (by rw[q];exact hg))
   have hk3:Keeps (fun k=>X k∧k≠g) w (((wr.setCell ⟨g,10,none⟩ (.bool true)).setCell ⟨g,8,none⟩ (.slice none 0 0)).setCell ⟨g,7,none⟩ (.slice none 0 0)):=(((hkr.less (fun k q=>q.1)).then_set (fun q=>q.2 rfl)).then_set (fun q=>q.2 rfl)).then_set (fun q=>q.2 rfl)
   replace hB3:=Lib.hid hB3;replace hD3:=Lib.hid hD3;replace hk3:=Lib.hid hk3;replace hB1:=Lib.hid hB1;replace hB2:=Lib.hid hB2;replace hBr:=Lib.hid hBr;replace hDr:=Lib.hid hDr;replace hkr:=Lib.hid hkr;go_wp2_with fail
   go_ret
   exact⟨rfl,hD3.out,hk3.out,hB3.out⟩
set_option maxRecDepth 100000 in
set_option maxHeartbeats 1000000 in
theorem cloneS_nil (w:World):Calls Tryz.prog 52 #[.slice none 0 0] w fun e w'=>e=.returned (.slice none 0 0)∧w=w':=by
 have eN:∀(W:World) (a:Option Addr) (n c:Nat),(binOp .eql 38 (.slice a n c) (.slice none 0 0)).run Tryz.prog W=.ok (.bool a.isNone) W:=fun W a n c=>Lib.run_eql_slice_nil W _ _ a n c 0 0 Tryz.underlying38
 go_enter Tryz.func52,Tryz.ntmps52
 go_wp2_with fail
 go_ret
 exact⟨rfl,rfl⟩
set_option maxRecDepth 100000 in
set_option maxHeartbeats 1000000 in
theorem cloneT_nil (w:World):Calls Tryz.prog 53 #[.slice none 0 0] w fun e w'=>e=.returned (.slice none 0 0)∧w=w':=by
 have eN:∀(W:World) (a:Option Addr) (n c:Nat),(binOp .eql 40 (.slice a n c) (.slice none 0 0)).run Tryz.prog W=.ok (.bool a.isNone) W:=fun W a n c=>Lib.run_eql_slice_nil W _ _ a n c 0 0 Tryz.underlying40
 go_enter Tryz.func53,Tryz.ntmps53
 go_wp2_with fail
 go_ret
 exact⟨rfl,rfl⟩
def tiL (t:TI):List Value:=(tiC t).toList
def tsL (ts:List TI):List Value:=ts.flatMap tiL
def fsL (fs:List L):List Value:=fs.map fun x=>.string (bs x)
def JS (g:Nat)(vt vf:Value)(k:Nat):Prop:=k=g∨vt.ownBlock=some k∨vf.ownBlock=some k
def JX (K F:Nat→Prop)(g:Nat)(vt vf:Value)(k:Nat):Prop:=K k∨JS g vt vf k∨F k
theorem Keeps.of_kept {K S:Nat→Prop}{w w':World}(h:KeptBut w w' S)(hK:∀k,K k→k<w.heap.size∧¬S k):Keeps K w w':=⟨h.os,h.tape,h.output,h.size,fun k hk=>h.block k (hK k hk).1 (hK k hk).2⟩
theorem kept_of_grown {w w2:World}{ob:Obj}{row:Option Nat}(hg:(w.alloc ob).grownBy w2 row):KeptBut w w2 (fun k=>row=some k):=(KeptBut.of_below ((Below.refl _ _).alloc (Nat.le_refl _) ob)).then_grown hg (fun k e=>e)
theorem Dx.aside {X Y S:Nat→Prop}{w w':World}{d:Nat}{s:Dsk}(h:Dx X w d s)(hk:KeptBut w w' S)(hS:∀k,S k→X k∨w.heap.size≤k)(hY:∀k,Y k→X k∨w.heap.size≤k):Dx Y w' d s:=by
 obtain⟨F,L,hL,hF⟩:=h;refine⟨F,L,hL.kept hk (fun k hf hs=>?_),fun k hf=>⟨by have:=(hF k hf).1;have:=hk.size;omega,fun hy=>?_⟩⟩
 ·rcases hS k hs with q | q
  ·exact (hF k hf).2 q
  ·have:=(hF k hf).1;omega
 ·rcases hY k hy with q | q
  ·exact (hF k hf).2 q
  ·have:=(hF k hf).1;omega
structure JAt (K F:Nat→Prop)(w:World)(g d:Nat)(s:Dsk)(lv:Int)(n:Nat)(vl:Value)(li en:Nat)(gb:Option Addr)(vt vf:Value)(done over dead:Bool)(ts:List TI)(fs:List L):Prop where
 dx:Dx (JX K F g vt vf) w d s
 kl:∀k,K k→k<w.heap.size∧¬JS g vt vf k∧¬F k
 fl:∀k,F k→k<w.heap.size∧¬JS g vt vf k
 box:Blk w g 88 (jobC (.pointer (some ⟨d,0,none⟩)) lv n vl li en gb vt vf done over dead)
 tabs:w.ownsRow 0 51 8 vt ts.length (tsL ts)
 files:w.ownsRow 0 9 1 vf fs.length (fsL fs)
section
variable {K F F':Nat→Prop}{w w' w2:World}{g d:Nat}{s s':Dsk}{lv:Int}{n:Nat}{vl:Value}{li en:Nat}{gb:Option Addr}{vt vf v2:Value}{done over dead:Bool}{ts:List TI}{fs:List L}
theorem JAt.lt (h:JAt K F w g d s lv n vl li en gb vt vf done over dead ts fs):∀k,JX K F g vt vf k→k<w.heap.size:=by
 intro k hk;rcases hk with hk | (rfl | hk | hk) | hk
 ·exact (h.kl k hk).1
 ·exact h.box.lt
 ·exact (own_lt h.tabs k hk).2
 ·exact (own_lt h.files k hk).2
 ·exact (h.fl k hk).1
theorem JAt.jbx (h:JAt K F w g d s lv n vl li en gb vt vf done over dead ts fs):JBx (JX K F g vt vf) w g d s lv n vl li en gb vt vf done over dead fs :=
 ⟨h.dx,h.lt,h.box,.inr (.inl (.inl rfl)),h.files,fun k e=>.inr (.inl (.inr (.inr e)))⟩
theorem JAt.disk (h:JAt K F w g d s lv n vl li en gb vt vf done over dead ts fs)(hD:Dx (JX K F g vt vf) w' d s')(hk:Keeps (JX K F g vt vf) w w'):JAt K F w' g d s' lv n vl li en gb vt vf done over dead ts fs∧Keeps K w w' :=
 have hz:=hk.size
 ⟨⟨hD,fun k q=>⟨by have:=(h.kl k q).1;omega,(h.kl k q).2⟩,fun k q=>⟨by have:=(h.fl k q).1;omega,(h.fl k q).2⟩,hk.blk h.box (.inr (.inl (.inl rfl))),hk.own h.tabs (fun k e=>.inr (.inl (.inr (.inl e)))),hk.own h.files (fun k e=>.inr (.inl (.inr (.inr e))))⟩,
  hk.less (fun k q=>.inl q)⟩
theorem JAt.keeps {S:Nat→Prop}(h:JAt K F w g d s lv n vl li en gb vt vf done over dead ts fs)(hk:KeptBut w w' S)(hS:∀k,S k→JS g vt vf k∨F k∨w.heap.size≤k):Keeps K w w':=.of_kept hk fun k q=>⟨(h.kl k q).1,fun e=>by
 have hq:=h.kl k q;rcases hS k e with e | e | e
 ·exact hq.2.1 e
 ·exact hq.2.2 e
 ·omega⟩
theorem JAt.built {S:Nat→Prop}(h:JAt K F w g d s lv n vl li en gb vt vf done over dead ts fs)(hk:KeptBut w w' S)(hS:∀k,S k→F k∨w.heap.size≤k)(hF:∀k,F' k→(F k∨w.heap.size≤k)∧k<w'.heap.size):JAt K F' w' g d s lv n vl li en gb vt vf done over dead ts fs:=by
 have hz:=hk.size;have hq:∀k,JS g vt vf k→k<w.heap.size:=fun k q=>h.lt k (.inr (.inl q))
 have hns:∀k,JS g vt vf k→¬S k:=fun k q e=>by
  rcases hS k e with e | e
  ·exact (h.fl k e).2 q
  ·have:=hq k q;omega
 refine⟨h.dx.aside hk (fun k e=>(hS k e).imp (fun q=>.inr (.inr q)) id) (fun k q=>?_),fun k q=>?_,fun k q=>?_,h.box.keptB hk (hns g (.inl rfl)),own_kept h.tabs hk (fun k e=>hns k (.inr (.inl e))),own_kept h.files hk (fun k e=>hns k (.inr (.inr e)))⟩
 ·rcases q with q | q | q
  ·exact .inl (.inl q)
  ·exact .inl (.inr (.inl q))
  ·rcases (hF k q).1 with q | q
   ·exact .inl (.inr (.inr q))
   ·exact .inr q
 ·obtain⟨h1,h2,h3⟩:=h.kl k q;refine⟨by omega,h2,fun e=>?_⟩;rcases (hF k e).1 with e | e
  ·exact h3 e
  ·omega
 ·refine⟨(hF k q).2,fun e=>?_⟩;rcases (hF k q).1 with q | q
  ·exact (h.fl k q).2 e
  ·have:=hq k e;omega
theorem JAt.below (h:JAt K F w g d s lv n vl li en gb vt vf done over dead ts fs)(hb:Below w.heap.size w w'):JAt K F w' g d s lv n vl li en gb vt vf done over dead ts fs :=
 h.built (S:=fun _=>False) (KeptBut.of_below hb) (fun k q=>q.elim) (fun k q=>⟨.inl q,by have:=(h.fl k q).1;have:=hb.size;omega⟩)
theorem JAt.more_ (h:JAt K F w g d s lv n vl li en gb vt vf done over dead ts fs){o:Nat}{v:Value}{li' en':Nat}{gb':Option Addr}{done' over' dead':Bool}(hB:Blk (w.setCell ⟨g,o,none⟩ v) g 88 (jobC (.pointer (some ⟨d,0,none⟩)) lv n vl li' en' gb' vt vf done' over' dead')) :
  JAt K F (w.setCell ⟨g,o,none⟩ v) g d s lv n vl li' en' gb' vt vf done' over' dead' ts fs∧Keeps K w (w.setCell ⟨g,o,none⟩ v):=by
 have hk:KeptBut w (w.setCell ⟨g,o,none⟩ v) (fun k=>k=g):=(KeptBut.refl _ _).then_set rfl
 have hz:=hk.size;refine⟨⟨h.dx.beside hk (fun k q=>.inl (.inr (.inl (.inl q)))),fun k q=>⟨by have:=(h.kl k q).1;omega,(h.kl k q).2⟩,fun k q=>⟨by have:=(h.fl k q).1;omega,(h.fl k q).2⟩,hB,own_kept h.tabs hk ?_,own_kept h.files hk ?_⟩,h.keeps hk (fun k q=>.inl (.inl q))⟩
 ·intro k hk e;exact own_blk_ne h.tabs h.box (by decide) (by rw[hk,e])
 ·intro k hk e;exact own_blk_ne h.files h.box (by decide) (by rw[hk,e])
theorem JAt.addT {ob:Obj}{t:TI}(h:JAt K F w g d s lv n vl li en gb vt vf done over dead ts fs)(hg:(w.alloc ob).grownBy w2 vt.ownBlock)(ho:w2.ownsRow 0 51 8 v2 (ts.length+1) (tsL ts++tiL t))(hat:v2.ownBlock=vt.ownBlock∨v2.ownBlock=some (w.alloc ob).heap.size) :
  JAt K F (w2.setCell ⟨g,7,none⟩ v2) g d s lv n vl li en gb v2 vf done over dead (ts++[t]) fs∧Keeps K w (w2.setCell ⟨g,7,none⟩ v2)∧Blk w2 g 88 (jobC (.pointer (some ⟨d,0,none⟩)) lv n vl li en gb vt vf done over dead):=by
 have hk0:=kept_of_grown hg
 have hB:Blk w2 g 88 (jobC (.pointer (some ⟨d,0,none⟩)) lv n vl li en gb vt vf done over dead):=h.box.keptB hk0 (own_blk_ne h.tabs h.box (by decide))
 have hB2:Blk (w2.setCell ⟨g,7,none⟩ v2) g 88 (jobC (.pointer (some ⟨d,0,none⟩)) lv n vl li en gb v2 vf done over dead):=hB.set_ 7 v2
 have hk:KeptBut w (w2.setCell ⟨g,7,none⟩ v2) (fun k=>k=g∨vt.ownBlock=some k):=(hk0.mono (fun k _ e=>.inr e)).then_set (.inl rfl)
 have hz:=hk.size
 have hz0:(w.alloc ob).heap.size=w.heap.size+1:=by simp
 have hn:∀k,v2.ownBlock=some k→vt.ownBlock=some k∨w.heap.size≤k:=fun k e=>by
  rcases hat with q | q
  ·exact .inl (by rw[←q];exact e)
  ·rw[q] at e;injection e with e;exact .inr (by omega)
 refine⟨⟨h.dx.aside hk (fun k e=>.inl (.inr (.inl (e.imp id .inl)))) (fun k e=>?_),fun k q=>?_,fun k q=>?_,hB2,?_,?_⟩,h.keeps hk (fun k e=>.inl (e.imp id .inl)),hB⟩
 ·rcases e with e | (e | e | e) | e
  ·exact .inl (.inl e)
  ·exact .inl (.inr (.inl (.inl e)))
  ·exact (hn k e).imp (fun q=>.inr (.inl (.inr (.inl q)))) id
  ·exact .inl (.inr (.inl (.inr (.inr e))))
  ·exact .inl (.inr (.inr e))
 ·obtain⟨h1,h2,h3⟩:=h.kl k q;refine⟨by omega,fun e=>?_,h3⟩;rcases e with e | e | e
  ·exact h2 (.inl e)
  ·rcases hn k e with e | e
   ·exact h2 (.inr (.inl e))
   ·omega
  ·exact h2 (.inr (.inr e))
 ·obtain⟨h1,h2⟩:=h.fl k q;refine⟨by omega,fun e=>?_⟩;rcases e with e | e | e
  ·exact h2 (.inl e)
  ·rcases hn k e with e | e
   ·exact h2 (.inr (.inl e))
   ·omega
  ·exact h2 (.inr (.inr e))
 ·have e1:tsL (ts++[t])=tsL ts++tiL t:=by simp[tsL]
  rw[e1,List.length_append]
  exact own_kept ho ((KeptBut.refl w2 (fun k=>k=g)).then_set rfl) (fun k e q=>own_blk_ne ho hB (by decide) (by rw[e,q]))
 ·exact own_kept h.files hk (fun k e q=>by
   rcases q with q | q
   ·exact own_blk_ne h.files h.box (by decide) (by rw[e,q])
   ·exact own_types h.files h.tabs (by decide) k e q)
theorem JAt.addF {ob:Obj}{x:L}(h:JAt K F w g d s lv n vl li en gb vt vf done over dead ts fs)(hg:(w.alloc ob).grownBy w2 vf.ownBlock)(ho:w2.ownsRow 0 9 1 v2 (fs.length+1) (fsL fs++[.string (bs x)]))(hat:v2.ownBlock=vf.ownBlock∨v2.ownBlock=some (w.alloc ob).heap.size) :
  JAt K F (w2.setCell ⟨g,8,none⟩ v2) g d s lv n vl li en gb vt v2 done over dead ts (fs++[x])∧Keeps K w (w2.setCell ⟨g,8,none⟩ v2)∧Blk w2 g 88 (jobC (.pointer (some ⟨d,0,none⟩)) lv n vl li en gb vt vf done over dead):=by
 have hk0:=kept_of_grown hg
 have hB:Blk w2 g 88 (jobC (.pointer (some ⟨d,0,none⟩)) lv n vl li en gb vt vf done over dead):=h.box.keptB hk0 (own_blk_ne h.files h.box (by decide))
 have hB2:Blk (w2.setCell ⟨g,8,none⟩ v2) g 88 (jobC (.pointer (some ⟨d,0,none⟩)) lv n vl li en gb vt v2 done over dead):=hB.set_ 8 v2
 have hk:KeptBut w (w2.setCell ⟨g,8,none⟩ v2) (fun k=>k=g∨vf.ownBlock=some k):=(hk0.mono (fun k _ e=>.inr e)).then_set (.inl rfl)
 have hz:=hk.size
 have hz0:(w.alloc ob).heap.size=w.heap.size+1:=by simp
 have hn:∀k,v2.ownBlock=some k→vf.ownBlock=some k∨w.heap.size≤k:=fun k e=>by
  rcases hat with q | q
  ·exact .inl (by rw[←q];exact e)
  ·rw[q] at e;injection e with e;exact .inr (by omega)
 refine⟨⟨h.dx.aside hk (fun k e=>.inl (.inr (.inl (e.imp id .inr)))) (fun k e=>?_),fun k q=>?_,fun k q=>?_,hB2,?_,?_⟩,h.keeps hk (fun k e=>.inl (e.imp id .inr)),hB⟩
 ·rcases e with e | (e | e | e) | e
  ·exact .inl (.inl e)
  ·exact .inl (.inr (.inl (.inl e)))
  ·exact .inl (.inr (.inl (.inr (.inl e))))
  ·exact (hn k e).imp (fun q=>.inr (.inl (.inr (.inr q)))) id
  ·exact .inl (.inr (.inr e))
 ·obtain⟨h1,h2,h3⟩:=h.kl k q;refine⟨by omega,fun e=>?_,h3⟩;rcases e with e | e | e
  ·exact h2 (.inl e)
  ·exact h2 (.inr (.inl e))
  ·rcases hn k e with e | e
   ·exact h2 (.inr (.inr e))
   ·omega
 ·obtain⟨h1,h2⟩:=h.fl k q;refine⟨by omega,fun e=>?_⟩;rcases e with e | e | e
  ·exact h2 (.inl e)
  ·exact h2 (.inr (.inl e))
  ·rcases hn k e with e | e
   ·exact h2 (.inr (.inr e))
   ·omega
 ·exact own_kept h.tabs hk (fun k e q=>by
   rcases q with q | q
   ·exact own_blk_ne h.tabs h.box (by decide) (by rw[e,q])
   ·exact own_types h.tabs h.files (by decide) k e q)
 ·have e1:fsL (fs++[x])=fsL fs++[.string (bs x)]:=by simp[fsL]
  rw[e1,List.length_append]
  exact own_kept ho ((KeptBut.refl w2 (fun k=>k=g)).then_set rfl) (fun k e q=>own_blk_ne ho hB (by decide) (by rw[e,q]))
end
theorem ti_info:(Tryz.prog.info? 51).map (fun i=>(i.zero,i.size,i.bytes))=some (some (.agg #[.int .u64 0,.int .i64 0,.int .i64 0,.int .i64 0,.string ⟨#[]⟩,.string ⟨#[]⟩,.int .u64 0,.int .u64 0]),8,80):=by kernel_rfl
theorem Gl.keeps {K:Nat→Prop}{w w':World}(h:Gl w)(hk:Keeps K w w')(h0:K 1)(h1:K 4):Gl w' :=
 ⟨fun i hi=>(hk.cell (b:=1) (o:=i) h0).trans (h.tab i hi),h.mx.imp fun m hm=>(hk.cell (b:=4) (o:=0) h1).trans hm⟩
def finD (s:Dsk)(name rest:L):Dsk × Nat:=if (laidE s name rest).2=0 then (laidE s name rest).1.sync name else laidE s name rest
theorem one_ti (w:World)(t:TypeId)(x:TI):Reads (w.alloc (.cells (tiC x) t)) (w.heap.size+1) 8 (some ⟨w.heap.size,0,none⟩) 1 (tiL x) :=
 ⟨rfl,fun _=>⟨_,rfl,by simp,fun j u hu=>by
  rw[add_off,Nat.zero_add,(Blk.new w t (tiC x)).cell j];rw[←Array.getElem?_toList]
  exact hu⟩⟩
theorem tiL_one (t:TI):∀u∈tiL t,u.oneCell'=true:=by
 intro u hu;unfold tiL tiC at hu;simp at hu
 rcases hu with rfl | rfl | rfl | rfl | rfl | rfl | rfl | rfl<;>rfl
set_option maxRecDepth 100000 in
set_option maxHeartbeats 4000000 in
theorem finish_any {K F:Nat→Prop}{w:World}{g d a:Nat}{s:Dsk}{lv:Int}{n:Nat}{vl:Value}{li en:Nat}{vt vf:Value}{done over dead:Bool}{ts:List TI}{fs:List L}{nn:Nat}{own:List Ent}{b:TB}{out:L}{bls:List (List (L × L))}{cur:List (L × L)}{m:Nat}
  (h:JAt K F w g d s lv n vl li en (some ⟨a,0,none⟩) vt vf done over dead ts fs) (hT:TBIn w F a b) (hG:Gl w) (hK0:K 1) (hK1:K 4) (hR:RunI nn lv own b out bls cur) (hne:own≠[]) (hM:own.length≤60) (gd:s.Good m) (hm:m<1000000) (name:L) (hn:name.length≤1000) (hts:ts.length≤1000) (hli:li≤1000) (ho:b.outL.length≤1073741824) :
  Calls Tryz.prog 74 #[.pointer (some ⟨g,0,none⟩),.string (bs name)] w fun e w'=>e=.returned (.int .i64 ((finD s name b.outL).2:Nat))∧Keeps K w w'∧∃F' vt',JAt K F' w' g d (finD s name b.outL).1 lv n vl (if (finD s name b.outL).2=0 then li+1 else li) (if (finD s name b.outL).2=0 then 0 else en) (some ⟨a,0,none⟩) vt' vf done over dead (if (finD s name b.outL).2=0 then ts++[{ b.t with size:=out.length+b.outL.length }] else ts) fs:=by
 obtain⟨i0,hi0,hz0,hz1,hz2⟩:=info_parts ti_info;have c6:w.cell? ⟨g,6,none⟩=some (.pointer (some ⟨a,0,none⟩)):=h.box.cell 6;have hfin:=Fin_run hT hG (fun q=>(h.kl _ hK0).2.2 q) (fun q=>(h.kl _ hK1).2.2 q) hR hne (by omega);obtain⟨t,ht⟩:∃t,({ b.t with size:=out.length+b.outL.length }:TI)=t:=⟨_,rfl⟩;rw[ht] at hfin ⊢;obtain⟨rest,hrest⟩:∃r,b.outL=r:=⟨_,rfl⟩;rw[hrest] at hfin ho ⊢;have hl:=h.box.lt;have gl:=Lib.hid (laidE_good gd name rest);obtain⟨N,hN⟩:∃N,ts.length=N:=⟨_,rfl⟩
 obtain⟨VA,Vc,hvt⟩:∃A c,vt=.slice A N c:=by
  rcases h.tabs.2 with⟨rfl,e⟩ | ⟨gg,cap,cur,rfl,_⟩
  ·exact⟨none,0,by rw[←hN,e]⟩
  ·exact⟨_,cap,by rw[hN]⟩
 subst hvt;obtain⟨RR,hRR⟩:∃r,finD s name rest=r:=⟨_,rfl⟩;rw[hRR];obtain⟨sR,eR⟩:=RR;simp only
 obtain⟨li2,hli2⟩:∃r,(if eR=0 then li+1 else li)=r:=⟨_,rfl⟩
 obtain⟨en2,hen2⟩:∃r,(if eR=0 then 0 else en)=r:=⟨_,rfl⟩
 obtain⟨ts2,hts2⟩:∃r,(if eR=0 then ts++[t] else ts)=r:=⟨_,rfl⟩
 rw[hli2,hen2,hts2];obtain⟨r1,hr1⟩:∃r,laidE s name rest=r:=⟨_,rfl⟩;rw[hr1] at gl;obtain⟨s1,e1⟩:=r1;simp only at gl;unfold finD at hRR;rw[hr1] at hRR;replace hRR:=Lib.hid hRR;replace hli2:=Lib.hid hli2;replace hen2:=Lib.hid hen2;replace hts2:=Lib.hid hts2;replace hfin:=Lib.hid hfin;replace h:=Lib.hid h;replace gd:=Lib.hid gd;replace hr1:=Lib.hid hr1;replace hrest:=Lib.hid hrest;replace ht:=Lib.hid ht;clear hT hG hR hne hM
 go_enter Tryz.func74,Tryz.ntmps74
 go_wp2_with fail
 refine hfin.out.mono ?_;rintro e w1 ⟨rfl,_,hk1⟩;have hz1':=hk1.size;have hT3:=Blk.new w1 51 (tiC t)
 have hk2:KeptBut w (w1.alloc (.cells (tiC t) 51)) F:=hk1.then_below ((Below.refl _ _).alloc (Nat.le_refl _) _)
 have hsz:(w1.alloc (.cells (tiC t) 51)).heap.size=w1.heap.size+1:=by simp
 have h2:JAt K (fun k=>F k∨k=w1.heap.size) (w1.alloc (.cells (tiC t) 51)) g d s lv n vl li en (some ⟨a,0,none⟩) (.slice VA N Vc) vf done over dead ts fs :=
  h.out.built hk2 (fun k q=>.inl q) (fun k q=>by
   rcases q with q | q
   ·exact⟨.inl q,by have:=(h.out.fl k q).1;omega⟩
   ·exact⟨.inr (by omega),by omega⟩)
 have K2:=Lib.hid (h.out.keeps hk2 (fun k q=>.inr (.inl q)));replace hT3:=Lib.hid hT3;replace h2:=Lib.hid h2;clear hk1 hk2 hsz hfin;unfold tiC strV at hT3 h2 K2 ⊢;go_wp2_with fail
 generalize hw2:w1.alloc (.cells #[.int .u64 (t.n:Nat),.int .i64 t.level,.int .i64 (t.count:Nat),.int .i64 (t.size:Nat),.string (bs t.first),.string (bs t.last),.int .u64 (t.least:Nat),.int .u64 (t.most:Nat)] 51)=w2 at *
 replace hw2:=Lib.hid hw2
 generalize hTB:w1.heap.size=tb at *
 replace hTB:=Lib.hid hTB;have hla:=lay_any h2.out.dx h2.out.lt h2.out.box gd.out (by omega) name rest hn ho;rw[hr1.out] at hla;simp only at hla;refine hla.mono ?_;clear hla;rintro e w3 ⟨rfl,hD3,hk3⟩;obtain⟨h3,K3⟩:=h2.out.disk hD3 hk3;have hT4:=hk3.blk hT3.out (.inr (.inr (.inr rfl)));have K4:=K2.out.trans K3 (fun _=>id);clear K2 K3 hk3 hD3 hT3 h2
 by_cases he1:e1=0
 ·subst he1;have hsy:=Sync_dx h3.dx h3.lt gl.out (by omega) (bs name) (by rw[bs_size];omega);rw[bs_data] at hsy;obtain⟨r2,hr2⟩:∃r,s1.sync name=r:=⟨_,rfl⟩;rw[hr2] at hsy;obtain⟨s2,e2⟩:=r2;simp only at hsy;have b0:w3.cell? ⟨g,0,none⟩=some (.pointer (some ⟨d,0,none⟩)):=h3.box.cell 0;have hl3:=h3.box.lt;replace hsy:=Lib.hid hsy;replace hr2:=Lib.hid hr2;replace h3:=Lib.hid h3;replace hT4:=Lib.hid hT4;replace K4:=Lib.hid K4;go_wp2_with fail
  refine hsy.out.mono ?_;clear hsy;rintro e w4 ⟨rfl,hD4,hk4⟩;obtain⟨h4,K5⟩:=h3.out.disk hD4 hk4;have hT5:=hk4.blk hT4.out (.inr (.inr (.inr rfl)));have K6:=K4.out.trans K5 (fun _=>id);clear K4 K5 hk4 hD4 hT4 h3
  by_cases he2:e2=0
  ·subst he2;have z0:=hT5.cell 0;have z1:=hT5.cell 1;have z2:=hT5.cell 2;have z3:=hT5.cell 3;have z4:=hT5.cell 4;have z5:=hT5.cell 5;have z6:=hT5.cell 6;have z7:=hT5.cell 7;simp only[List.getElem?_toArray,List.getElem?_cons_zero,List.getElem?_cons_succ] at z0 z1 z2 z3 z4 z5 z6 z7;have d7:w4.cell? ⟨g,7,none⟩=some (.slice VA N Vc):=h4.box.cell 7;have hl4:=h4.box.lt;have hlt:=hT5.lt;replace h4:=Lib.hid h4;replace hT5:=Lib.hid hT5;replace K6:=Lib.hid K6;go_wp2_with fail
   have hxc:=@Ext.cell;have hxf:=@Ext.frozen;refine wp_hide (fun Q0 hQ0=>?_);refine wp_region_line (fun w'=>∃x:Ext _,w'=x.w) [some true,some false,some false,some false,some false,some false,none,none,none,none,none] 1 (by kernel_rfl) (by kernel_rfl) ⟨⟨_,(Below.refl _ _).drew⟩,rfl⟩ ?_;simp only[earlyL,tailL]
   repeat (first | ((with_reducible refine wpMix_p ?_);go_big_quiet_step (fail);refine wpQuiet_nil ?_) | ((with_reducible refine wpMix_e ?_);go_big_quiet_step ((first | fail));refine wpQuiet_nil ?_))
   refine wpMix_nil ?_;clear hxc hxf;intro wx hwx;obtain⟨x,hx⟩:=hwx;have hb:=x.below;rw[←hx] at hb;clear hx x;have hzx:=hb.size;have h5:=h4.out.below hb
   have K7:=K6.out.then_below hb (fun k q=>(h4.out.kl k q).1)
   have howt:=h5.tabs;rw[hN] at howt
   have hox:=own_block (w':=wx.alloc (.cells #[.int .u64 (t.n:Nat),.int .i64 t.level,.int .i64 (t.count:Nat),.int .i64 (t.size:Nat),.string (bs t.first),.string (bs t.last),.int .u64 (t.least:Nat),.int .u64 (t.most:Nat)] 51)) howt (fun j hj=>Below.heap_alloc wx _ j (own_lt howt j hj).2)
   clear howt;replace hox:=Lib.hid hox;replace h5:=Lib.hid h5;replace K7:=Lib.hid K7;clear h4 K6 d7;refine wpTail_step ?_;intro Q1 hQ1;go_wp2_with fail
   refine hQ1 _ _ rfl (fun _=>⟨⟨_,hb.alloc (by omega) _⟩,rfl⟩) ?_;clear hQ1 Q1;refine wpTail_step ?_;intro Q1 hQ1
   go_wp2_with (at_builtin;refine wpList_append_any _ rfl (.tmp 41) (.tmp 43) _ rfl 0 51 i0 _ 8 80 Tryz.underlying40 hi0 hz0 hz1 hz2 rfl (by omega) _ N (tsL ts) rfl hox.out (wx.heap.size+1) (some ⟨wx.heap.size,0,none⟩) 1 1 (tiL t) rfl ?c0 ?c1 ?c2 ?c3 (Nat.zero_le _) ?_;rotate_left 4;intro v6 w6 ho6 hg6 hat6)
   case c0=>exact one_ti wx _ t
   case c1=>exact tiL_one t
   case c2=>simp only[maxLen];omega
   case c3=>omega
   obtain⟨A6,c6,hv6⟩:∃A c,v6=.slice A (N+1) c:=by
    rcases ho6.2 with⟨_,e⟩ | ⟨g,cap,cur,rfl,_⟩
    ·omega
    ·exact⟨_,cap,rfl⟩
   subst hv6;obtain⟨h6,K8,hB6⟩:=h5.out.addT hg6 (by rw[hN];exact ho6) hat6;have K9:=K7.out.trans K8 (fun _=>id);have x7:=hB6.cell 7;have x7':w6.cell? ⟨g,7,none⟩=some (.slice VA N Vc):=x7;have f7:=hB6.frozen 7;have hl6:=hB6.lt;have y4:(w6.setCell ⟨g,7,none⟩ (.slice A6 (N+1) c6)).cell? ⟨g,4,none⟩=some (.int .i64 (li:Nat)):=h6.box.cell 4;have y4f:=h6.box.frozen 4;have hl7:=h6.box.lt;obtain⟨h7,L1⟩:=h6.more_ (li':=li+1) (o:=4) (v:=.int .i64 ((li:Int)+1)) (h6.box.set_ 4 (.int .i64 ((li:Int)+1)));have y5:=h7.box.cell 5;have y5f:=h7.box.frozen 5;have hl8:=h7.box.lt;obtain⟨h8,L2⟩:=h7.more_ (en':=0) (o:=5) (v:=.int .i64 0) (h7.box.set_ 5 (.int .i64 0));have L3:=(K9.trans L1 (fun _=>id)).trans L2 (fun _=>id);clear x7 ho6 hg6 hat6 h5 hox K7 K8 K9 L1 L2;replace hB6:=Lib.hid hB6;replace h6:=Lib.hid h6;replace h7:=Lib.hid h7;replace h8:=Lib.hid h8;replace L3:=Lib.hid L3;refine hQ1 _ _ rfl (fun h=>absurd h (by decide)) ?_;clear hQ1 Q1;refine wpTail_step ?_;intro Q1 hQ1
   go_wp2_with (fail)
   refine hQ1 _ _ rfl (fun h=>absurd h (by decide)) ?_;clear hQ1 Q1;refine wpTail_step ?_;intro Q1 hQ1
   go_wp2_with (fail)
   refine hQ1 _ _ rfl (fun h=>absurd h (by decide)) ?_;clear hQ1 Q1;refine wpTail_step ?_;intro Q1 hQ1;go_wp2_with fail
   refine hQ1 _ _ rfl (fun h=>absurd h (by decide)) ?_;clear hQ1 Q1;refine wpTail_nil ?_;refine hQ0 _ _ ?_;clear hQ0 Q0;go_wp2_with fail
   go_ret
   have q0:=hRR.out;simp only[if_true] at q0;rw[hr2.out] at q0;injection q0 with q1 q2;subst q1 q2;have q3:=hli2.out;have q4:=hen2.out;have q5:=hts2.out;rw[if_pos rfl] at q3 q4 q5;subst q3 q4 q5;exact⟨rfl,L3.out,_,_,h8.out⟩
  ·have he2':¬(e2:Int)=0:=by omega
   have hb2:((e2:Int)==0)=false:=by simpa using he2'
   replace hr2:=Lib.hid hr2;replace h4:=Lib.hid h4;replace K6:=Lib.hid K6;clear hT5;go_wp2_with fail
   go_ret
   have q0:=hRR.out;simp only[if_true] at q0;rw[hr2.out.out] at q0;injection q0 with q1 q2;subst q1 q2;have q3:=hli2.out;have q4:=hen2.out;have q5:=hts2.out;rw[if_neg he2] at q3 q4 q5;subst q3 q4 q5;exact⟨rfl,K6.out,_,_,h4.out⟩
 ·have he1':¬(e1:Int)=0:=by omega
  have hb1:((e1:Int)==0)=false:=by simpa using he1'
  replace h3:=Lib.hid h3;replace K4:=Lib.hid K4;clear hT4;go_wp2_with fail
  go_ret
  have q0:=hRR.out;rw[if_neg he1] at q0;injection q0 with q1 q2;subst q1 q2;have q3:=hli2.out;have q4:=hen2.out;have q5:=hts2.out;rw[if_neg he1] at q3 q4 q5;subst q3 q4 q5;exact⟨rfl,K4.out,_,_,h3.out⟩
end Go.Proofs.YtlpojfgeocpkeaaGreatDoor
