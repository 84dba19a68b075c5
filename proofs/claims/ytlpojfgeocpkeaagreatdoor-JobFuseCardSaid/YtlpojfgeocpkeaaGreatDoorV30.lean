/- Contracts of package job: finish. Package job, plain: what a step of a job does. What a job's calls keep: its lists, the program's variables. -/
import Derived.Test.YtlpojfgeocpkeaaGreatDoorV29
import Derived.Test.YtlpojfgeocpkeaaGreatDoorV28
namespace Go.Proofs.YtlpojfgeocpkeaaGreatDoor
open Go.RowKit Go.Sort
set_option linter.unusedVariables false
set_option linter.unusedSimpArgs false
theorem Gl.keeps {K:Nat→Prop}{w w':World}(h:Gl w)(hk:Keeps K w w')(h0:K 1)(h1:K 4):Gl w' :=
 ⟨fun i hi=>(hk.cell (b:=1) (o:=i) h0).trans (h.tab i hi),h.mx.imp fun m hm=>(hk.cell (b:=4) (o:=0) h1).trans hm⟩
def finD (s:Dsk)(name rest:L):Dsk × Nat:=if (laidE s name rest).2=0 then (laidE s name rest).1.sync name else laidE s name rest
theorem one_ti (w:World)(t:TypeId)(x:TI):Reads (w.alloc (.cells (tiC x) t)) (w.heap.size+1) 8 (some ⟨w.heap.size,0,none⟩) 1 (tiL x) :=
 ⟨rfl,fun _=>⟨_,rfl,by simp,fun j u hu=>by
  rw[add_off,Nat.zero_add,(Blk.new w t (tiC x)).cell j];rw[←Array.getElem?_toList]
  exact hu⟩⟩
theorem tiL_one (t:TI):∀u∈tiL t,u.oneCell'=true:=by
 intro u hu;unfold tiL tiC at hu;simp at hu
 rcases hu with rfl | rfl | rfl | rfl | rfl | rfl | rfl | rfl<;>rfl
set_option maxRecDepth 100000 in
set_option maxHeartbeats 4000000 in
theorem finish_any {K F:Nat→Prop}{w:World}{g d a:Nat}{s:Dsk}{lv:Int}{n:Nat}{vl:Value}{li en:Nat}{vt vf:Value}{done over dead:Bool}{ts:List TI}{fs:List L}{nn:Nat}{own:List Ent}{b:TB}{out:L}{bls:List (List (L × L))}{cur:List (L × L)}{m:Nat}
  (h:JAt K F w g d s lv n vl li en (some ⟨a,0,none⟩) vt vf done over dead ts fs) (hT:TBIn w F a b) (hG:Gl w) (hK0:K 1) (hK1:K 4) (hR:RunI nn lv own b out bls cur) (hne:own≠[]) (hM:own.length≤60) (gd:s.Good m) (hm:m<1000000) (name:L) (hn:name.length≤1000) (hts:ts.length≤1000) (hli:li≤1000) (ho:b.outL.length≤1073741824) :
  Calls Tryz.prog 74 #[.pointer (some ⟨g,0,none⟩),.string (bs name)] w fun e w'=>e=.returned (.int .i64 ((finD s name b.outL).2:Nat))∧Keeps K w w'∧∃F' vt',JAt K F' w' g d (finD s name b.outL).1 lv n vl (if (finD s name b.outL).2=0 then li+1 else li) (if (finD s name b.outL).2=0 then 0 else en) (some ⟨a,0,none⟩) vt' vf done over dead (if (finD s name b.outL).2=0 then ts++[{ b.t with size:=out.length+b.outL.length }] else ts) fs:=by
 obtain⟨i0,hi0,hz0,hz1,hz2⟩:=info_parts ti_info;have c6:w.cell? ⟨g,6,none⟩=some (.pointer (some ⟨a,0,none⟩)):=h.box.cell 6;have hfin:=Fin_run hT hG (fun q=>(h.kl _ hK0).2.2 q) (fun q=>(h.kl _ hK1).2.2 q) hR hne (by omega);obtain⟨t,ht⟩:∃t,({ b.t with size:=out.length+b.outL.length }:TI)=t:=⟨_,rfl⟩;rw[ht] at hfin ⊢;obtain⟨rest,hrest⟩:∃r,b.outL=r:=⟨_,rfl⟩;rw[hrest] at hfin ho ⊢;have hl:=h.box.lt;have gl:=Lib.hid (laidE_good gd name rest);obtain⟨N,hN⟩:∃N,ts.length=N:=⟨_,rfl⟩
 obtain⟨VA,Vc,hvt⟩:∃A c,vt=.slice A N c:=by
  rcases h.tabs.2 with⟨rfl,e⟩ | ⟨gg,cap,cur,rfl,_⟩
  ·exact⟨none,0,by rw[←hN,e]⟩
  ·exact⟨_,cap,by rw[hN]⟩
 subst hvt;obtain⟨RR,hRR⟩:∃r,finD s name rest=r:=⟨_,rfl⟩;rw[hRR];obtain⟨sR,eR⟩:=RR;simp only
 obtain⟨li2,hli2⟩:∃r,(if eR=0 then li+1 else li)=r:=⟨_,rfl⟩
 obtain⟨en2,hen2⟩:∃r,(if eR=0 then 0 else en)=r:=⟨_,rfl⟩
 obtain⟨ts2,hts2⟩:∃r,(if eR=0 then ts++[t] else ts)=r:=⟨_,rfl⟩
 rw[hli2,hen2,hts2];obtain⟨r1,hr1⟩:∃r,laidE s name rest=r:=⟨_,rfl⟩;rw[hr1] at gl;obtain⟨s1,e1⟩:=r1;simp only at gl;unfold finD at hRR;rw[hr1] at hRR;replace hRR:=Lib.hid hRR;replace hli2:=Lib.hid hli2;replace hen2:=Lib.hid hen2;replace hts2:=Lib.hid hts2;replace hfin:=Lib.hid hfin;replace h:=Lib.hid h;replace gd:=Lib.hid gd;replace hr1:=Lib.hid hr1;replace hrest:=Lib.hid hrest;replace ht:=Lib.hid ht;clear hT hG hR hne hM
 go_enter Tryz.func74,Tryz.ntmps74
 go_wp2_with fail
 refine hfin.out.mono ?_;rintro e w1 ⟨rfl,_,hk1⟩;have hz1':=hk1.size;have hT3:=Blk.new w1 51 (tiC t)
 have hk2:KeptBut w (w1.alloc (.cells (tiC t) 51)) F:=hk1.then_below ((Below.refl _ _).alloc (Nat.le_refl _) _)
 have hsz:(w1.alloc (.cells (tiC t) 51)).heap.size=w1.heap.size+1:=by simp
 have h2:JAt K (fun k=>F k∨k=w1.heap.size) (w1.alloc (.cells (tiC t) 51)) g d s lv n vl li en (some ⟨a,0,none⟩) (.slice VA N Vc) vf done over dead ts fs :=
  h.out.built hk2 (fun k q=>.inl q) (fun k q=>by
   rcases q with q | q
   ·exact⟨.inl q,by have:=(h.out.fl k q).1;omega⟩
   ·exact⟨.inr (by omega),by omega⟩)
 have K2:=Lib.hid (h.out.keeps hk2 (fun k q=>.inr (.inl q)));replace hT3:=Lib.hid hT3;replace h2:=Lib.hid h2;clear hk1 hk2 hsz hfin;unfold tiC strV at hT3 h2 K2 ⊢;go_wp2_with fail
 generalize hw2:w1.alloc (.cells #[.int .u64 (t.n:Nat),.int .i64 t.level,.int .i64 (t.count:Nat),.int .i64 (t.size:Nat),.string (bs t.first),.string (bs t.last),.int .u64 (t.least:Nat),.int .u64 (t.most:Nat)] 51)=w2 at *
 replace hw2:=Lib.hid hw2
 generalize hTB:w1.heap.size=tb at *
 replace hTB:=Lib.hid hTB;have hla:=lay_any h2.out.dx h2.out.lt h2.out.box gd.out (by omega) name rest hn ho;rw[hr1.out] at hla;simp only at hla;refine hla.mono ?_;clear hla;rintro e w3 ⟨rfl,hD3,hk3⟩;obtain⟨h3,K3⟩:=h2.out.disk hD3 hk3;have hT4:=hk3.blk hT3.out (.inr (.inr (.inr rfl)));have K4:=K2.out.trans K3 (fun _=>id);clear K2 K3 hk3 hD3 hT3 h2
 by_cases he1:e1=0
 ·subst he1;have hsy:=Sync_dx h3.dx h3.lt gl.out (by omega) (bs name) (by rw[bs_size];omega);rw[bs_data] at hsy;obtain⟨r2,hr2⟩:∃r,s1.sync name=r:=⟨_,rfl⟩;rw[hr2] at hsy;obtain⟨s2,e2⟩:=r2;simp only at hsy;have b0:w3.cell? ⟨g,0,none⟩=some (.pointer (some ⟨d,0,none⟩)):=h3.box.cell 0;have hl3:=h3.box.lt;replace hsy:=Lib.hid hsy;replace hr2:=Lib.hid hr2;replace h3:=Lib.hid h3;replace hT4:=Lib.hid hT4;replace K4:=Lib.hid K4;go_wp2_with fail
  refine hsy.out.mono ?_;clear hsy;rintro e w4 ⟨rfl,hD4,hk4⟩;obtain⟨h4,K5⟩:=h3.out.disk hD4 hk4;have hT5:=hk4.blk hT4.out (.inr (.inr (.inr rfl)));have K6:=K4.out.trans K5 (fun _=>id);clear K4 K5 hk4 hD4 hT4 h3
  by_cases he2:e2=0
  ·subst he2;have z0:=hT5.cell 0;have z1:=hT5.cell 1;have z2:=hT5.cell 2;have z3:=hT5.cell 3;have z4:=hT5.cell 4;have z5:=hT5.cell 5;have z6:=hT5.cell 6;have z7:=hT5.cell 7;simp only[List.getElem?_toArray,List.getElem?_cons_zero,List.getElem?_cons_succ] at z0 z1 z2 z3 z4 z5 z6 z7;have d7:w4.cell? ⟨g,7,none⟩=some (.slice VA N Vc):=h4.box.cell 7;have hl4:=h4.box.lt;have hlt:=hT5.lt;replace h4:=Lib.hid h4;replace hT5:=Lib.hid hT5;replace K6:=Lib.hid K6;go_wp2_with fail
   have hxc:=@Ext.cell;have hxf:=@Ext.frozen;refine wp_hide (fun Q0 hQ0=>?_);refine wp_region_line (fun w'=>∃x:Ext _,w'=x.w) [some true,some false,some false,some false,some false,some false,none,none,none,none,none] 1 (by kernel_rfl) (by kernel_rfl) ⟨⟨_,(Below.refl _ _).drew⟩,rfl⟩ ?_;simp only[earlyL,tailL]
   repeat (first | ((with_reducible refine wpMix_p ?_);go_big_quiet_step (fail);refine wpQuiet_nil ?_) | ((with_reducible refine wpMix_e ?_);go_big_quiet_step ((first | fail));refine wpQuiet_nil ?_))
   refine wpMix_nil ?_;clear hxc hxf;intro wx hwx;obtain⟨x,hx⟩:=hwx;have hb:=x.below;rw[←hx] at hb;clear hx x;have hzx:=hb.size;have h5:=h4.out.below hb
   have K7:=K6.out.then_below hb (fun k q=>(h4.out.kl k q).1)
   have howt:=h5.tabs;rw[hN] at howt
   have hox:=own_block (w':=wx.alloc (.cells #[.int .u64 (t.n:Nat),.int .i64 t.level,.int .i64 (t.count:Nat),.int .i64 (t.size:Nat),.string (bs t.first),.string (bs t.last),.int .u64 (t.least:Nat),.int .u64 (t.most:Nat)] 51)) howt (fun j hj=>Below.heap_alloc wx _ j (own_lt howt j hj).2)
   clear howt;replace hox:=Lib.hid hox;replace h5:=Lib.hid h5;replace K7:=Lib.hid K7;clear h4 K6 d7;refine wpTail_step ?_;intro Q1 hQ1;go_wp2_with fail
   refine hQ1 _ _ rfl (fun _=>⟨⟨_,hb.alloc (by omega) _⟩,rfl⟩) ?_;clear hQ1 Q1;refine wpTail_step ?_;intro Q1 hQ1
   go_wp2_with (at_builtin;refine wpList_append_any _ rfl (.tmp 41) (.tmp 43) _ rfl 0 51 i0 _ 8 80 Tryz.underlying40 hi0 hz0 hz1 hz2 rfl (by omega) _ N (tsL ts) rfl hox.out (wx.heap.size+1) (some ⟨wx.heap.size,0,none⟩) 1 1 (tiL t) rfl ?c0 ?c1 ?c2 ?c3 (Nat.zero_le _) ?_;rotate_left 4;intro v6 w6 ho6 hg6 hat6)
   case c0=>exact one_ti wx _ t
   case c1=>exact tiL_one t
   case c2=>simp only[maxLen];omega
   case c3=>omega
   obtain⟨A6,c6,hv6⟩:∃A c,v6=.slice A (N+1) c:=by
    rcases ho6.2 with⟨_,e⟩ | ⟨g,cap,cur,rfl,_⟩
    ·omega
    ·exact⟨_,cap,rfl⟩
   subst hv6;obtain⟨h6,K8,hB6⟩:=h5.out.addT hg6 (by rw[hN];exact ho6) hat6;have K9:=K7.out.trans K8 (fun _=>id);have x7:=hB6.cell 7;have x7':w6.cell? ⟨g,7,none⟩=some (.slice VA N Vc):=x7;have f7:=hB6.frozen 7;have hl6:=hB6.lt;have y4:(w6.setCell ⟨g,7,none⟩ (.slice A6 (N+1) c6)).cell? ⟨g,4,none⟩=some (.int .i64 (li:Nat)):=h6.box.cell 4;have y4f:=h6.box.frozen 4;have hl7:=h6.box.lt;obtain⟨h7,L1⟩:=h6.more_ (li':=li+1) (o:=4) (v:=.int .i64 ((li:Int)+1)) (h6.box.set_ 4 (.int .i64 ((li:Int)+1)));have y5:=h7.box.cell 5;have y5f:=h7.box.frozen 5;have hl8:=h7.box.lt;obtain⟨h8,L2⟩:=h7.more_ (en':=0) (o:=5) (v:=.int .i64 0) (h7.box.set_ 5 (.int .i64 0));have L3:=(K9.trans L1 (fun _=>id)).trans L2 (fun _=>id);clear x7 ho6 hg6 hat6 h5 hox K7 K8 K9 L1 L2;replace hB6:=Lib.hid hB6;replace h6:=Lib.hid h6;replace h7:=Lib.hid h7;replace h8:=Lib.hid h8;replace L3:=Lib.hid L3;refine hQ1 _ _ rfl (fun h=>absurd h (by decide)) ?_;clear hQ1 Q1;refine wpTail_step ?_;intro Q1 hQ1
   go_wp2_with (fail)
   refine hQ1 _ _ rfl (fun h=>absurd h (by decide)) ?_;clear hQ1 Q1;refine wpTail_step ?_;intro Q1 hQ1
   go_wp2_with (fail)
   refine hQ1 _ _ rfl (fun h=>absurd h (by decide)) ?_;clear hQ1 Q1;refine wpTail_step ?_;intro Q1 hQ1;go_wp2_with fail
   refine hQ1 _ _ rfl (fun h=>absurd h (by decide)) ?_;clear hQ1 Q1;refine wpTail_nil ?_;refine hQ0 _ _ ?_;clear hQ0 Q0;go_wp2_with fail
   go_ret
   have q0:=hRR.out;simp only[if_true] at q0;rw[hr2.out] at q0;injection q0 with q1 q2;subst q1 q2;have q3:=hli2.out;have q4:=hen2.out;have q5:=hts2.out;rw[if_pos rfl] at q3 q4 q5;subst q3 q4 q5;exact⟨rfl,L3.out,_,_,h8.out⟩
  ·have he2':¬(e2:Int)=0:=by omega
   have hb2:((e2:Int)==0)=false:=by simpa using he2'
   replace hr2:=Lib.hid hr2;replace h4:=Lib.hid h4;replace K6:=Lib.hid K6;clear hT5;go_wp2_with fail
   go_ret
   have q0:=hRR.out;simp only[if_true] at q0;rw[hr2.out.out] at q0;injection q0 with q1 q2;subst q1 q2;have q3:=hli2.out;have q4:=hen2.out;have q5:=hts2.out;rw[if_neg he2] at q3 q4 q5;subst q3 q4 q5;exact⟨rfl,K6.out,_,_,h4.out⟩
 ·have he1':¬(e1:Int)=0:=by omega
  have hb1:((e1:Int)==0)=false:=by simpa using he1'
  replace h3:=Lib.hid h3;replace K4:=Lib.hid K4;clear hT4;go_wp2_with fail
  go_ret
  have q0:=hRR.out;rw[if_neg he1] at q0;injection q0 with q1 q2;subst q1 q2;have q3:=hli2.out;have q4:=hen2.out;have q5:=hts2.out;rw[if_neg he1] at q3 q4 q5;subst q3 q4 q5;exact⟨rfl,K4.out,_,_,h3.out⟩
end Go.Proofs.YtlpojfgeocpkeaaGreatDoor
namespace Go.Proofs.YtlpojfgeocpkeaaGreatDoor
open Go.RowKit Go.Lib
set_option linter.unusedVariables false
set_option linter.unusedSimpArgs false
def tabW:L:=[116,97,98,108,101]
def nameT (n:Nat):L:=nameL tabW n
def finJ (r:TB × L × List Ent):TI:={ r.1.t with size:=r.2.1.length+r.1.outL.length }
structure JW where
 li:Nat
 en:Nat
 ts:List TI
 fs:List L
def openD (n:Nat)(J:JW)(s:Dsk):Dsk × Nat:=if J.en=0 then s.create (nameT (n+J.li)) else (s,0)
def openF (n:Nat)(J:JW):List L:=if J.en=0 then J.fs++[nameT (n+J.li)] else J.fs
def writeE (n:Nat)(lv:Int)(l:List Ent)(J:JW)(s:Dsk):JW × Dsk × Nat :=
 if (openD n J s).2=0 then
  if (laidE (openD n J s).1 (nameT (n+J.li)) ((runX (n+J.li) lv (l.take J.en)).1.add (l.getD J.en ent0)).2).2=0 then
   if J.en+1<l.length then (⟨J.li,J.en+1,J.ts,openF n J⟩,(laidE (openD n J s).1 (nameT (n+J.li)) ((runX (n+J.li) lv (l.take J.en)).1.add (l.getD J.en ent0)).2).1,0)
   else if (finD (laidE (openD n J s).1 (nameT (n+J.li)) ((runX (n+J.li) lv (l.take J.en)).1.add (l.getD J.en ent0)).2).1 (nameT (n+J.li)) (runX (n+J.li) lv l).1.outL).2=0 then
    (⟨J.li+1,0,J.ts++[finJ (runX (n+J.li) lv l)],openF n J⟩,(finD (laidE (openD n J s).1 (nameT (n+J.li)) ((runX (n+J.li) lv (l.take J.en)).1.add (l.getD J.en ent0)).2).1 (nameT (n+J.li)) (runX (n+J.li) lv l).1.outL).1,0)
   else (⟨J.li,J.en+1,J.ts,openF n J⟩,finD (laidE (openD n J s).1 (nameT (n+J.li)) ((runX (n+J.li) lv (l.take J.en)).1.add (l.getD J.en ent0)).2).1 (nameT (n+J.li)) (runX (n+J.li) lv l).1.outL)
  else (⟨J.li,J.en,J.ts,openF n J⟩,laidE (openD n J s).1 (nameT (n+J.li)) ((runX (n+J.li) lv (l.take J.en)).1.add (l.getD J.en ent0)).2)
 else (J,openD n J s)
theorem openD_good {s:Dsk}{m:Nat}(g:s.Good m)(n:Nat)(J:JW):(openD n J s).1.Good (m+1):=by
 unfold openD;split
 ·exact g.create _
 ·exact g.more (by omega)
theorem finD_good {s:Dsk}{m:Nat}(g:s.Good m)(name rest:L):(finD s name rest).1.Good (m+2):=by
 unfold finD;split
 ·exact (laidE_good g name rest).sync _
 ·exact (laidE_good g name rest).more (by omega)
theorem writeE_good {s:Dsk}{m:Nat}(g:s.Good m)(n:Nat)(lv:Int)(l:List Ent)(J:JW):(writeE n lv l J s).2.1.Good (m+4):=by
 have h1:=openD_good g n J;have h2:=laidE_good h1 (nameT (n+J.li)) ((runX (n+J.li) lv (l.take J.en)).1.add (l.getD J.en ent0)).2;have h3:=finD_good h2 (nameT (n+J.li)) (runX (n+J.li) lv l).1.outL;unfold writeE;split
 ·split
  ·split
   ·exact h2.more (by omega)
   ·split
    ·exact h3
    ·exact h3
  ·exact h2.more (by omega)
 ·exact h1.more (by omega)
theorem nameT_len (n:Nat)(h:n<18446744073709551616):(nameT n).length≤40:=by
 have h1:=decDigits_length n;have h2:=nDigits_le h;unfold nameT nameL pad8 tabW;simp;omega
structure OkL (l:List Ent):Prop where
 inc:l.Pairwise fun x y=>ltE x y=true
 fit:∀e∈l,fitsE e=true
 len:l.length≤60
 pos:0<l.length
theorem entSz_le (l:List Ent)(h:∀e∈l,fitsE e=true):entSz l≤576*l.length:=by
 induction l with
 | nil=>simp[entSz]
 | cons e l ih =>
  have h1:=ih (fun x hx=>h x (List.mem_cons_of_mem _ hx));obtain⟨h2,h3,h4,_⟩:=fits_parts (h e (List.mem_cons_self ..));unfold entSz at h1 ⊢;simp only[List.map_cons,List.sum_cons,List.length_cons];omega
section
variable {l:List Ent}(h:OkL l)(n:Nat)(lv:Int)
include h
theorem OkL.runI (k:Nat)(hk:k≤l.length):∃bl cu,RunI n lv (l.take k) (runX n lv (l.take k)).1 (runX n lv (l.take k)).2.1 bl cu:=by
 obtain⟨bl,cu,hI,_⟩:=(runX_I n lv (l.take k)).ex;rw[runX_take h.inc h.fit k hk] at hI;exact⟨bl,cu,hI⟩
theorem OkL.cost (k:Nat)(hk:k≤l.length):(runX n lv (l.take k)).2.1.length+(runX n lv (l.take k)).1.outL.length≤2*entSz (l.take k)+60000:=by
 obtain⟨bl,cu,hI⟩:=h.runI n lv k hk;have h1:=hI.file_cost (by rw[List.length_take];have:=h.len;omega);rw[List.length_append] at h1;exact h1
theorem OkL.small (k:Nat)(hk:k≤l.length):(runX n lv (l.take k)).2.1.length+(runX n lv (l.take k)).1.outL.length≤200000:=by
 have h1:=h.cost n lv k hk;have h2:=entSz_le (l.take k) (fun e he=>h.fit e (List.mem_of_mem_take he));rw[List.length_take] at h2;have:=h.len;omega
theorem OkL.snoc {k:Nat}(hk:k<l.length):runX n lv (l.take (k+1))=(((runX n lv (l.take k)).1.add (l.getD k ent0)).1,(runX n lv (l.take k)).2.1++((runX n lv (l.take k)).1.add (l.getD k ent0)).2,l.take (k+1))∧(runX n lv (l.take k)).1.err (l.getD k ent0)=0:=by
 have e1:l.getD k ent0=l[k]:=by rw[List.getD_eq_getElem?_getD,List.getElem?_eq_getElem hk];rfl
 have h1:=runX_err (n:=n) (lv:=lv) h.inc h.fit hk;have h2:=runX_take (n:=n) (lv:=lv) h.inc h.fit (k+1) (by omega)
 have h3:runX n lv (l.take (k+1))=stepX (runX n lv (l.take k)) l[k]:=by
  rw[List.take_succ_eq_append_getElem hk,runX_snoc]
 rw[e1];refine⟨?_,h1⟩;rw[h3] at h2 ⊢;refine Prod.ext rfl (Prod.ext rfl ?_);exact h2
theorem OkL.piece {k:Nat}(hk:k<l.length):((runX n lv (l.take k)).1.add (l.getD k ent0)).2.length≤200000:=by
 have h1:=h.small n lv (k+1) (by omega);rw[(h.snoc n lv hk).1] at h1;simp only[List.length_append] at h1;omega
end
end Go.Proofs.YtlpojfgeocpkeaaGreatDoor
namespace Go.Proofs.YtlpojfgeocpkeaaGreatDoor
open Go.RowKit Go.Sort
set_option linter.unusedVariables false
set_option linter.unusedSimpArgs false
theorem OwnF.keeps {K:Nat→Prop}{w w':World}{B:Nat}{v:Value}{l:List Ent}(h:OwnF w B v l)(hk:Keeps K w w')(hK:∀k,v.ownBlock=some k→K k):OwnF w' B v l:=by
 rcases h with h | ⟨g,cap,rfl,hB,hm,hr⟩
 ·exact .inl h
 ·obtain⟨cs,hb,h1,h2⟩:=hr.blk;exact .inr ⟨g,cap,rfl,hB,hm,hr.le,cs,hk.blk hb (hK g rfl),h1,h2⟩
theorem OwnLL.keeps {K:Nat→Prop}{w w':World}{B:Nat}{v:Value}{ls:List EL}(h:OwnLL w B v ls)(hk:Keeps K w w')(h1:∀k,v.ownBlock=some k→K k)(h2:∀x∈ls,∀k,(Value.slice x.A x.l.length x.c).ownBlock=some k→K k):OwnLL w' B v ls :=
 ⟨hk.own h.row h1,fun x hx=>(h.each x hx).keeps hk (h2 x hx)⟩
theorem own_form {w:World}{B e m n:Nat}{v:Value}{xs:List Value}(h:w.ownsRow B e m v (n+1) xs):∃A c,v=.slice A (n+1) c:=by
 rcases h.2 with⟨_,e⟩ | ⟨gg,cap,cur,rfl,_⟩
 ·omega
 ·exact⟨_,cap,rfl⟩
theorem Tab.low {B:Nat}{w w':World}(h:Tab w)(hb:Below B w w')(hB:6≤B):Tab w':=var_below g_tab h hb (by omega)
structure JK (K:Nat→Prop)(w:World)(vl:Value)(os:List EL):Prop where
 rows:OwnLL w 0 vl os
 in1:∀k,vl.ownBlock=some k→K k
 in2:∀x∈os,∀k,(Value.slice x.A x.l.length x.c).ownBlock=some k→K k
 ok:∀x∈os,OkL x.l
 few:os.length≤6
 gl:Gl w
 five:Tab w
 low:∀k,k<7→K k
 size:7≤w.heap.size
section
variable {K:Nat→Prop}{w w':World}{vl:Value}{os:List EL}
theorem JK.keeps (h:JK K w vl os)(hk:Keeps K w w'):JK K w' vl os :=
 ⟨h.rows.keeps hk h.in1 h.in2,h.in1,h.in2,h.ok,h.few,h.gl.keeps hk (h.low _ (by decide)) (h.low _ (by decide)),h.five.low (hk.below h.low) (by decide),h.low,by have:=hk.size;have:=h.size;omega⟩
theorem OkL.seq {l:List Ent}(h:OkL l):∀e∈l,e.seq<18446744073709551616:=fun e he=>by
 have:=(fits_parts (h.fit e he)).2.2.2.2.2;omega
theorem JK.ls (h:JK K w vl os):∃A c,vl=.slice A os.length c∧LsAt w w.heap.size A os:=by
 obtain⟨A,c,rfl⟩:=h.rows.form;exact⟨A,c,rfl,h.rows.ls (fun x hx=>(h.ok x hx).seq)⟩
end
end Go.Proofs.YtlpojfgeocpkeaaGreatDoor
