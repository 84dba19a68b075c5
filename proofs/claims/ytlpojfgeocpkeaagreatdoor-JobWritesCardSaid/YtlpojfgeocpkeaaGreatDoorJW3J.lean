/- Contract of the document's job: Table. -/
import Derived.Test.YtlpojfgeocpkeaaGreatDoorX45
import Derived.Test.YtlpojfgeocpkeaaGreatDoorJLs2J
namespace Go.Proofs.YtlpojfgeocpkeaaGreatDoor
open Go.RowKit Go.Sort
set_option linter.unusedVariables false
set_option linter.unusedSimpArgs false
theorem ents_key {w:World}{N:Nat}{A:Option Addr}{l:List Ent}(h:Reads w N 4 A l.length (entsC l))(hp:0<l.length):∃b o,A=some ⟨b,o,none⟩∧b<N∧∀i e,l[i]? = some e→w.cell? ⟨b,o+i*4,none⟩=some (.string (bs e.key))∧w.cell? ⟨b,o+i*4+2,none⟩=some (.int .u64 (e.seq:Nat)):=by
 obtain⟨ad,e1,hab,cell⟩:=h.2 hp;obtain⟨b,o,rfl⟩:=plain_cell (cell 0 _ (entsC_atJ l 0 l[0] (List.getElem?_eq_getElem hp)).1);refine⟨b,o,e1,hab,fun i e hi=>?_⟩;obtain⟨q0,q1,q2,q3⟩:=entsC_atJ l i e hi;have r0:=cell _ _ q0;have r2:=cell _ _ q2;rw[add_off] at r0 r2;rw[←Nat.add_assoc] at r2;exact⟨r0,r2⟩
theorem last_key {l:List Ent}{m:Nat}{e:Ent}(hm:l.length=m+1)(he:l[m]? = some e):(l.getLast?.map (·.key)).getD []=e.key:=by
 rw[List.getLast?_eq_getElem?,show l.length-1=m from by omega,he];rfl
theorem head_key {l:List Ent}{e:Ent}(he:l[0]? = some e):(l.head?.map (·.key)).getD []=e.key∧headD l=e.seq:=by
 unfold headD;rw[List.head?_eq_getElem?,he];exact⟨rfl,rfl⟩
def tCr (n:Nat)(lv:Int)(M:Nat)(a z:L)(mn mx:Nat):Array Value:=#[.int .u64 (n:Nat),.int .i64 lv,.int .i64 (M:Nat),.int .i64 0,.string (bs a),.string (bs z),.int .u64 (mn:Nat),.int .u64 (mx:Nat)]
set_option maxRecDepth 100000 in
set_option maxHeartbeats 8000000 in
theorem RTable_any {w:World}{A:Option Addr}{l:List Ent}{cap:Nat}(h:Reads w w.heap.size 4 A l.length (entsC l))(hp:0<l.length)(hl:l.length≤1000)(hsq:∀e∈l,e.seq<18446744073709551616)(lv:Int)(n:Nat) :
  Calls Tryz.prog 26 #[.slice A l.length cap,.int .i64 lv,.int .u64 (n:Nat)] w fun e w'=>e=.returned (.agg (tiC (tabR l lv n 0)))∧Below w.heap.size w w':=by
 obtain⟨bb,oo,rfl,hbb,hcl⟩:=ents_key h hp;obtain⟨m,hm⟩:∃m,l.length=m+1:=⟨l.length-1,by omega⟩;obtain⟨a,he0⟩:∃a,l[0]? = some a:=⟨_,List.getElem?_eq_getElem hp⟩;obtain⟨z,hem⟩:∃z,l[m]? = some z:=⟨_,List.getElem?_eq_getElem (show m<l.length by omega)⟩;have hk0:=head_key he0;have hkm:=last_key hm hem
 have hm0:minS l 0=a.seq:=by rw[←hk0.2];rfl
 have hx0:maxS l 0=a.seq:=by rw[←hk0.2];rfl
 have hq0:=(hcl 0 _ he0);have hqm:=(hcl m _ hem).1;rw[Nat.zero_mul,Nat.add_zero] at hq0
 have hR:tabR l lv n 0=⟨n,lv,l.length,0,a.key,z.key,minS l l.length,maxS l l.length⟩:=by
  unfold tabR;rw[hk0.1,hkm]
 have hsm:∀(i:Nat) (e:Ent),l[i]? = some e→e.seq<18446744073709551616:=fun i e q=>hsq e (List.mem_of_getElem? q);have hs0:=hsm 0 _ he0
 have hml:∀i,minS l i≤18446744073709551615∧maxS l i≤18446744073709551615:=fun i=>by
  have h0:headD l≤18446744073709551615:=by rw[hk0.2];omega
  have:∀(q:List Ent) (a:Nat),(∀e∈q,e.seq<18446744073709551616)→a≤18446744073709551615→q.foldl (fun (a:Nat) (e:Ent)=>min a e.seq) a≤18446744073709551615∧q.foldl (fun (a:Nat) (e:Ent)=>max a e.seq) a≤18446744073709551615:=fun q=>by
   induction q with
   | nil=>exact fun a _ h=>⟨h,h⟩
   | cons x q ih =>
    intro a hq ha;have hx:=hq x (List.mem_cons_self ..);exact⟨(ih (min a x.seq) (fun e he=>hq e (List.mem_cons_of_mem _ he)) (by omega)).1,(ih (max a x.seq) (fun e he=>hq e (List.mem_cons_of_mem _ he)) (by omega)).2⟩
  exact this (l.take i) (headD l) (fun e he=>hsq e (List.mem_of_mem_take he)) h0
 obtain⟨M,hM⟩:∃M,l.length=M:=⟨_,rfl⟩;rw[hR];rw[hM] at hp hl hm ⊢
 have hmi:(M:Int)-1=(m:Nat):=by omega
 have hmM:(m:Int)<M:=by omega
 replace hm:=Lib.hid hm;replace hM:=Lib.hid hM;replace hR:=Lib.hid hR;replace h:=Lib.hid h;replace hcl:=Lib.hid hcl;replace hsm:=Lib.hid hsm;replace hml:=Lib.hid hml;replace hm0:=Lib.hid hm0;replace hx0:=Lib.hid hx0;clear hk0 hkm hsq he0 hem;have hRb:=Blk.new w 51 #[.int .u64 0,.int .i64 0,.int .i64 0,.int .i64 0,.string ⟨#[]⟩,.string ⟨#[]⟩,.int .u64 0,.int .u64 0];have hb1:Below w.heap.size w (w.alloc (.cells #[.int .u64 0,.int .i64 0,.int .i64 0,.int .i64 0,.string ⟨#[]⟩,.string ⟨#[]⟩,.int .u64 0,.int .u64 0] 51)):=(Below.refl _ _).alloc (Nat.le_refl _) _
 have hz1:(w.alloc (.cells #[.int .u64 0,.int .i64 0,.int .i64 0,.int .i64 0,.string ⟨#[]⟩,.string ⟨#[]⟩,.int .u64 0,.int .u64 0] 51)).heap.size=w.heap.size+1:=by simp
 replace hRb:=Lib.hid hRb;replace hb1:=Lib.hid hb1;have hq0a:=hq0.1;have hq0s:=hq0.2;clear hq0;unfold tiC strV
 go_enter Tryz.func26,Tryz.ntmps26
 go_wp2_with fail
 replace hz1:=Lib.hid hz1
 generalize w.alloc (.cells #[.int .u64 0,.int .i64 0,.int .i64 0,.int .i64 0,.string ⟨#[]⟩,.string ⟨#[]⟩,.int .u64 0,.int .u64 0] 51)=w1 at *
 have hz1:=hz1.out;have a0:w1.cell? ⟨bb,oo,none⟩=some (.string (bs a.key)):=(hb1.out.cell (p:=⟨bb,oo,none⟩) hbb).trans hq0a;have a2:w1.cell? ⟨bb,oo+2,none⟩=some (.int .u64 (a.seq:Nat)):=(hb1.out.cell (p:=⟨bb,oo+2,none⟩) hbb).trans hq0s;have am:w1.cell? ⟨bb,oo+m*4,none⟩=some (.string (bs z.key)):=(hb1.out.cell (p:=⟨bb,oo+m*4,none⟩) hbb).trans hqm
 have hbb1:bb<w1.heap.size:=by omega
 have hgl1:w.heap.size<w1.heap.size:=by omega
 clear hq0a hq0s hqm;have hxc:=@Ext.cell;have hxf:=@Ext.frozen;refine wp_hide (fun Q0 hQ0=>?_);refine wp_region_line2 (fun w'=>∃x:Ext _,w'=x.w) [some false,some false,some false,some false,some false,some false,some false,some false,some false,some false,some false,some false,some false,some false,some false,some false,some false,some false,some false,some false,some false,some false,some false,some false,none,none] 1 (by kernel_rfl) (by kernel_rfl) ⟨⟨_,(Below.refl _ _).drew⟩,rfl⟩ ?_;simp only[earlyL,tailL]
 repeat (first | ((with_reducible refine wpMix_p ?_);go_big_quiet_step (fail);refine wpQuiet_nil ?_) | ((with_reducible refine wpMix_e ?_);go_big_quiet_step ((first | fail));refine wpQuiet_nil ?_))
 refine wpMix_nil ?_;clear hxc hxf;intro wx hwx;obtain⟨x,hx⟩:=hwx;have hb:=x.below;rw[←hx] at hb;clear hx x;have hbs:=hb.size;have hRx:=hRb.out.below hb hRb.out.lt;have hbx:=hb1.out.trans (hb.mono (by omega));replace hRx:=Lib.hid hRx;replace hbx:=Lib.hid hbx;refine wpTail_step ?_;intro Q1 hQ1;go_wp2_with fail
 refine hQ1 _ _ rfl (fun _=>⟨⟨_,hb.alloc hbs _⟩,rfl⟩) ?_;clear hQ1 Q1;have hby:=hb;clear hb;refine wpTail_step ?_;intro Q1 hQ1;go_wp2_with fail
 refine hQ1 _ _ rfl (fun h=>absurd h (by decide)) ?_;clear hQ1 Q1;refine wpTail_nil ?_;refine hQ0 _ _ ?_;clear hQ0 Q0;have hT2:=Blk.new wx 51 (tCr n lv M a.key z.key a.seq a.seq);have hb2:=hbx.out.alloc (show w.heap.size≤wx.heap.size by omega) (.cells (tCr n lv M a.key z.key a.seq a.seq) 51);have hR2:=hRx.out.alloc (.cells (tCr n lv M a.key z.key a.seq a.seq) 51)
 have hgR:w.heap.size<wx.heap.size:=by omega
 unfold tCr at hT2 hb2 hR2;obtain⟨g,hg⟩:∃g,wx.heap.size=g:=⟨_,rfl⟩;obtain⟨w2,hw2⟩:∃x,wx.alloc (.cells #[.int .u64 (n:Nat),.int .i64 lv,.int .i64 (M:Nat),.int .i64 0,.string (bs a.key),.string (bs z.key),.int .u64 (a.seq:Nat),.int .u64 (a.seq:Nat)] 51)=x:=⟨_,rfl⟩;rw[hw2] at hT2 hb2 hR2 ⊢;rw[hg] at hT2 hgR ⊢;replace hT2:=Lib.hid hT2;replace hb2:=Lib.hid hb2;replace hR2:=Lib.hid hR2;replace hw2:=Lib.hid hw2;replace hg:=Lib.hid hg;clear a0 a2 am hby hRx hbx hRb hb1;go_wp2_with fail
 go_loopw [8] (fun iv wr=>∃i:Nat,i≤M∧iv=.int .i64 (i:Nat)∧KeptBut w2 wr (fun k=>k=g)∧Blk wr g 51 (tCr n lv M a.key z.key (minS l i) (maxS l i))) (fun iv _=>M-(intOf iv).toNat)
 case atStart=>exact⟨0,Nat.zero_le _,rfl,.refl _ _,by rw[hm0.out,hx0.out];exact hT2.out⟩
 case round =>
  obtain⟨i,hi,rfl,hk,hB⟩:=hrel;have hz:=hk.size;have hzb:=hb2.out.size;have hR3:=hR2.out.keptB hk (by show w.heap.size≠g;omega)
  by_cases hlt:i<M
  ·have hlt':(i:Int)<M:=by omega
   obtain⟨e,he⟩:∃e,l[i]? = some e:=⟨_,List.getElem?_eq_getElem (show i<l.length by have:=hM.out;omega)⟩;have hc:=(hcl.out i e he).2;have hsi:=hsm.out i e he;have hmi1:=minS_succ he;have hma1:=maxS_succ he;have hml:=hml.out i
   generalize minS l i=mn at *
   generalize maxS l i=mx at *
   have hci:wr.cell? ⟨bb,oo+i*4+2,none⟩=some (.int .u64 (e.seq:Nat)):=(hk.cell ⟨bb,oo+i*4+2,none⟩ (by show bb<_;omega) (by show bb≠g;omega)).trans ((hb2.out.cell (p:=⟨bb,oo+i*4+2,none⟩) hbb).trans hc)
   have hbr:bb<wr.heap.size:=by omega
   unfold tCr at hB;have c6:=hB.cell 6;have c7:=hB.cell 7;have f6:=hB.frozen 6;have gl:=hB.lt
   have hmin:min ((mn:Nat):Int) ((e.seq:Nat):Int)=((min mn e.seq:Nat):Int):=by omega
   have hmax:max ((mx:Nat):Int) ((e.seq:Nat):Int)=((max mx e.seq:Nat):Int):=by omega
   replace hmax:=Lib.hid hmax;replace hc:=Lib.hid hc;replace he:=Lib.hid he;replace hmi1:=Lib.hid hmi1;replace hma1:=Lib.hid hma1;replace hR3:=Lib.hid hR3;replace hB:=Lib.hid hB;replace hk:=Lib.hid hk;go_wp2_with fail
   have hxc:=@Ext.cell;have hxf:=@Ext.frozen;refine wp_hide (fun Q0 hQ0=>?_);refine wp_region_line (fun w'=>∃x:Ext _,w'=x.w) [some false,some false,some false,some false,some false,some false,some false,some false,some false,none] 0 (by kernel_rfl) (by kernel_rfl) ⟨⟨_,(Below.refl _ _).drew⟩,rfl⟩ ?_;simp only[earlyL,tailL]
   repeat (first | ((with_reducible refine wpMix_p ?_);go_big_quiet_step (fail);refine wpQuiet_nil ?_) | ((with_reducible refine wpMix_e ?_);go_big_quiet_step ((first | fail));refine wpQuiet_nil ?_))
   refine wpMix_nil ?_;clear hxc hxf;intro wx hwx;obtain⟨x,hx⟩:=hwx;have hb:=x.below;rw[←hx] at hb;clear hx x;have hBx:=hB.out.below hb hB.out.lt
   have hkx:=hk.out.then_below hb
   have x6:=hBx.cell 6;have g6:=hBx.frozen 6;have glx:=hBx.lt;have hzx:=hb.size;refine wpTail_step ?_;intro Q1 hQ1;go_wp2_with fail
   refine hQ1 _ _ rfl (fun h=>absurd h (by decide)) ?_;clear hQ1 Q1;refine wpTail_nil ?_;refine hQ0 _ _ ?_;clear hQ0 Q0;have hB6:Blk (wx.setCell ⟨g,6,none⟩ (.int .u64 ((min mn e.seq:Nat):Int))) g 51 (tCr n lv M a.key z.key (min mn e.seq) mx):=hBx.set_ 6 _
   have hk6:KeptBut w2 (wx.setCell ⟨g,6,none⟩ (.int .u64 ((min mn e.seq:Nat):Int))) (fun k=>k=g):=hkx.then_set rfl
   have hcx:(wx.setCell ⟨g,6,none⟩ (.int .u64 ((min mn e.seq:Nat):Int))).cell? ⟨bb,oo+i*4+2,none⟩=some (.int .u64 (e.seq:Nat)):=by
    have h1:=(hb.cell (p:=⟨bb,oo+i*4+2,none⟩) hbr).trans hci
    have h2:KeptBut wx (wx.setCell ⟨g,6,none⟩ (.int .u64 ((min mn e.seq:Nat):Int))) (fun k=>k=g):=(KeptBut.refl _ _).then_set rfl
    exact (h2.cell ⟨bb,oo+i*4+2,none⟩ (by show bb<_;omega) (by show bb≠g;omega)).trans h1
   obtain⟨w6,hw6⟩:∃x,wx.setCell ⟨g,6,none⟩ (.int .u64 ((min mn e.seq:Nat):Int))=x:=⟨_,rfl⟩;rw[hw6] at hB6 hk6 hcx ⊢;have hmax:=hmax.out;replace hw6:=Lib.hid hw6;have hz6:=hk6.size;unfold tCr at hB6;have d7:=hB6.cell 7;have e7:=hB6.frozen 7;have dl:=hB6.lt
   have hbr6:bb<w6.heap.size:=by omega
   clear c6 c7 f6 gl x6 g6 glx hci hb hBx hkx hmin;replace hB6:=Lib.hid hB6;replace hk6:=Lib.hid hk6;go_wp2_with fail
   have hxc:=@Ext.cell;have hxf:=@Ext.frozen;refine wp_hide (fun Q0 hQ0=>?_);refine wp_region_line (fun w'=>∃x:Ext _,w'=x.w) [some false,some false,some false,some false,some false,some false,some false,some false,some false,none] 0 (by kernel_rfl) (by kernel_rfl) ⟨⟨_,(Below.refl _ _).drew⟩,rfl⟩ ?_;simp only[earlyL,tailL]
   repeat (first | ((with_reducible refine wpMix_p ?_);go_big_quiet_step (fail);refine wpQuiet_nil ?_) | ((with_reducible refine wpMix_e ?_);go_big_quiet_step ((first | fail));refine wpQuiet_nil ?_))
   refine wpMix_nil ?_;clear hxc hxf;intro wx hwx;obtain⟨x,hx⟩:=hwx;have hb:=x.below;rw[←hx] at hb;clear hx x;have hBy:=hB6.out.below hb hB6.out.lt
   have hky:=hk6.out.then_below hb
   have x7:=hBy.cell 7;have g7:=hBy.frozen 7;have gly:=hBy.lt;refine wpTail_step ?_;intro Q1 hQ1;go_wp2_with fail
   refine hQ1 _ _ rfl (fun h=>absurd h (by decide)) ?_;clear hQ1 Q1;refine wpTail_nil ?_;refine hQ0 _ _ ?_;clear hQ0 Q0;have hB7:Blk (wx.setCell ⟨g,7,none⟩ (.int .u64 ((max mx e.seq:Nat):Int))) g 51 (tCr n lv M a.key z.key (min mn e.seq) (max mx e.seq)):=hBy.set_ 7 _
   have hk7:KeptBut w2 (wx.setCell ⟨g,7,none⟩ (.int .u64 ((max mx e.seq:Nat):Int))) (fun k=>k=g):=hky.then_set rfl
   replace hB7:=Lib.hid hB7;replace hk7:=Lib.hid hk7;clear hBy hky x7 g7 gly hb;go_wp2_with fail
   exact⟨⟨i+1,by omega,by go_num,hk7.out,by rw[hmi1.out,hma1.out];exact hB7.out⟩,by simp[intOf];omega⟩
  ·obtain rfl:i=M:=by omega
   have hlt':¬(i:Int)<i:=by omega
   obtain⟨mn,hmn⟩:∃x,minS l i=x:=⟨_,rfl⟩;obtain⟨mx,hmx⟩:∃x,maxS l i=x:=⟨_,rfl⟩;rw[hmn,hmx] at hB;replace hmn:=Lib.hid hmn;replace hmx:=Lib.hid hmx;have hBr:=hB;unfold tCr at hB;have c0:=hB.cell 0;have c1:=hB.cell 1;have c2:=hB.cell 2;have c3:=hB.cell 3;have c4:=hB.cell 4;have c5:=hB.cell 5;have c6:=hB.cell 6;have c7:=hB.cell 7;have gl:=hB.lt;have x0:=hR3.cell 0;have x1:=hR3.cell 1;have x2:=hR3.cell 2;have x3:=hR3.cell 3;have x4:=hR3.cell 4;have x5:=hR3.cell 5;have x6:=hR3.cell 6;have x7:=hR3.cell 7;have u0:=hR3.frozen 0;have u1:=hR3.frozen 1;have u2:=hR3.frozen 2;have u3:=hR3.frozen 3;have u4:=hR3.frozen 4;have u5:=hR3.frozen 5;have u6:=hR3.frozen 6;have u7:=hR3.frozen 7;have ul:=hR3.lt;have hfR:=ti_set hR3 ⟨n,lv,i,0,a.key,z.key,mn,mx⟩;have hbf:=hk.below (B:=w.heap.size) (fun k q=>by have:k=g:=q;omega) hb2.out.size;have hbw:=hb2.out.trans hbf;have hbF:=(((((((hbw.setCell (p:=⟨w.heap.size,0,none⟩) (Nat.le_refl _) (.int .u64 (n:Nat))).setCell (p:=⟨w.heap.size,1,none⟩) (Nat.le_refl _) (.int .i64 lv)).setCell (p:=⟨w.heap.size,2,none⟩) (Nat.le_refl _) (.int .i64 (i:Nat))).setCell (p:=⟨w.heap.size,3,none⟩) (Nat.le_refl _) (.int .i64 0)).setCell (p:=⟨w.heap.size,4,none⟩) (Nat.le_refl _) (.string (bs a.key))).setCell (p:=⟨w.heap.size,5,none⟩) (Nat.le_refl _) (.string (bs z.key))).setCell (p:=⟨w.heap.size,6,none⟩) (Nat.le_refl _) (.int .u64 (mn:Nat))).setCell (p:=⟨w.heap.size,7,none⟩) (Nat.le_refl _) (.int .u64 (mx:Nat));unfold strV at hfR;simp only at hfR;replace hfR:=Lib.hid hfR;replace hbF:=Lib.hid hbF
   replace hR3:=Lib.hid hR3;clear hbw hbf hBr hB;replace hk:=Lib.hid hk;go_wp2_with fail
   exact bodyPost_ret (v:=.agg #[.int .u64 (n:Nat),.int .i64 lv,.int .i64 (i:Nat),.int .i64 0,.string (bs a.key),.string (bs z.key),.int .u64 (mn:Nat),.int .u64 (mx:Nat)]) (results_cell_row rfl _ _ w.heap.size 51 #[.int .u64 (n:Nat),.int .i64 lv,.int .i64 (i:Nat),.int .i64 0,.string (bs a.key),.string (bs z.key),.int .u64 (mn:Nat),.int .u64 (mx:Nat)] (0,0) _ rfl hfR.out Tryz.underlying51 rfl (by kernel_rfl)) rfl ⟨by first | rfl | rw[hmn.out,hmx.out],hbF.out⟩
end Go.Proofs.YtlpojfgeocpkeaaGreatDoor
