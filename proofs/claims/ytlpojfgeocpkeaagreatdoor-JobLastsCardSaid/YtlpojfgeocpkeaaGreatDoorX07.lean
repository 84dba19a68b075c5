/- Contracts: Crash: what holds between its steps. Contracts: Crash. The directory behind every prefix of the changes: each file has one name. No program in sight. A file that was synced, whose name lasts: what other names' acts leave of it. No program in sight. Acts, and what they do to a disk as plain data. No program in sight. Contracts: a disk all of whose memory was made behind a mark. A file's name by a number, and a name's number, as plain data. No program in sight. -/
import Derived.Test.YtlpojfgeocpkeaaGreatDoorOp12J
import Derived.Test.YtlpojfgeocpkeaaGreatDoorLstJ
import Derived.Test.YtlpojfgeocpkeaaGreatDoorX02
import Derived.Lib.ItoaNum
import Derived.Lib.ParseIntBCases
import Derived.Lib.Strings
namespace Go.Proofs.YtlpojfgeocpkeaaGreatDoor
open Go.RowKit
set_option linter.unusedVariables false
set_option linter.unusedSimpArgs false
theorem dreads_kept {w w':World}{S:Nat→Prop}(hk:KeptBut w w' S){m n:Nat}{A:Option Addr}{xs:List Value}(hr:Reads w w.heap.size m A n xs)(hs:∀ad,0<n→A=some ad→¬S ad.block):Reads w' w'.heap.size m A n xs:=by
 rcases Nat.eq_zero_or_pos n with h | h
 ·exact⟨hr.1,fun h2=>absurd h2 (by omega)⟩
 ·exact hk.reads hr fun ad e=>hs ad h e
theorem CraAt.kept {w w':World}{S:Nat→Prop}{c:Cra}{KA PA:Option Addr}(h:CraAt w c KA PA)(hk:KeptBut w w' S)(hS:∀ad,(c.keep≠[]∧KA=some ad)∨(c.spoil≠[]∧PA=some ad)→¬S ad.block):CraAt w' c KA PA :=
 ⟨dreads_kept hk h.keep fun ad h0 e=>hS ad (.inl ⟨fun e2=>by rw[e2] at h0;simp at h0,e⟩),dreads_kept hk h.spoil fun ad h0 e=>hS ad (.inr ⟨fun e2=>by rw[e2] at h0;simp at h0,e⟩),h.kl,h.pl,h.kb,h.pb⟩
theorem add_zero_map (A:Option Addr):A.map (fun x=>x.add 0)=A:=by
 cases A with
 | none=>rfl
 | some a=>simp[Addr.add]
theorem ptrV_form (x:Option Nat):∃pa,ptrV x=.pointer pa:=by
 cases x with
 | none=>exact⟨none,rfl⟩
 | some b=>exact⟨_,rfl⟩
theorem chgV_at (g:Nat→Nat):∀(l:List Chg) (k:Nat) (c:Chg),l[k]? = some c→(chgV g l)[k*3]? = some (.string (bs c.fr))∧(chgV g l)[k*3+1]? = some (.string (bs c.toN))∧(chgV g l)[k*3+2]? = some (ptrV (c.f.map g))
 | [],k,p,h=>by simp at h
 | m::l,0,p,h=>by simp at h;subst h;simp[chgV]
 | m::l,k+1,p,h=>by
  have ih:=chgV_at g l k p (by simpa using h);rw[show (k+1)*3=k*3+3 from by omega]
  simpa[chgV] using ih
theorem chg_form {w:World}{F:Nat→Prop}{d:Nat}{L:Lay}{s:Dsk}(h:DskAt w F d L s):∃A cap,L.vC=.slice A s.chg.length cap∧s.chg.length≤cap∧cap≤maxLen ∧
  ∀j c,s.chg[j]? = some c→∃g,A=some ⟨g,0,none⟩∧L.vC.ownBlock=some g∧g<w.heap.size∧w.cell? ⟨g,j*3,none⟩=some (.string (bs c.fr))∧w.cell? ⟨g,j*3+1,none⟩=some (.string (bs c.toN))∧w.cell? ⟨g,j*3+2,none⟩=some (ptrV (c.f.map L.blk)):=by
 have hc:=h.chg;rcases h.chg.2 with⟨e,hn⟩ | ⟨g,cap,cur,e,_,hh,h1,h2,_⟩
 ·refine⟨none,0,by rw[e,hn],by omega,by unfold maxLen;omega,fun j c hj=>?_⟩;rw[List.eq_nil_of_length_eq_zero hn] at hj;simp at hj
 ·refine⟨some ⟨g,0,none⟩,cap,e,h1,h2,fun j c hj=>?_⟩
  have hg:L.vC.ownBlock=some g:=by rw[e];rfl
  have hl:=(own_lt hc g hg).2;have hx:=World.ownsRow.cells hc hg;obtain⟨a,b,e2⟩:=chgV_at L.blk s.chg j c hj;have a':=hx _ _ a;have b':=hx _ _ b;have e':=hx _ _ e2;rw[add_plain2,Nat.zero_add] at a' b' e';exact⟨g,rfl,hg,hl,a',b',e'⟩
section
variable {w w':World}{F:Nat→Prop}{d:Nat}{L:Lay}{s:Dsk}
theorem DskAt.relasts (h:DskAt w F d L s)(hk:KeptBut w w' (fun k=>k=L.gL)){m:NM}(hm:MapAt Tryz.prog 9 w' L.gL (mvM L.blk m))(hlv:∀p∈m,¬L.dead p.2):DskAt w' F d L { s with last:=m }:=by
 refine⟨h.box.keptB hk (fun e=>map_ne_blk h.last h.box e.symm),h.names.block (hk.block _ h.names.lt (fun e=>h.ne e)),hm,own_kept h.chg hk (fun k e=>own_ne_map h.chg h.last k e),fun i f hi hd=>?_,h.inF,h.ne,h.inj,⟨h.live.1,hlv,h.live.2.2⟩,h.rows⟩;obtain⟨a,b⟩:=h.file i f hi hd;exact⟨a.keptB hk (fun e=>map_ne_blk h.last a e.symm),own_kept b hk (fun k e=>own_ne_map b h.last k e)⟩
theorem DskAt.recrash (h:DskAt w F d L s){w3 w4:World}(hm:MapAt Tryz.prog 9 w3 w.heap.size (mvM L.blk s.last))(hb:Below w.heap.size w w3)(hlt:w.heap.size<w3.heap.size)
  (hk:KeptBut w3 w4 (fun k=>k=d)) (hbox:Blk w4 d 75 #[.int .i64 s.room,.map (some w.heap.size),.map (some L.gL),.slice none 0 0,.bool s.off,.int .i64 s.fuse]) :
  DskAt w4 (DFx F w w4) d { L with gN:=w.heap.size,vC:=.slice none 0 0 } { s with names:=s.last,chg:=[] }∧KeptBut w w4 F:=by
 obtain⟨f1,f2,f3,f4,f5⟩:=h.inF;have h3:=h.below hb;have hs4:=hk.size;refine⟨⟨hbox,?_,?_,World.ownsRow_nil _ _ _ _,fun i f hi hd=>?_,⟨.inl f1,(.inr ⟨Nat.le_refl _,(by show w.heap.size<w4.heap.size;omega)⟩),.inl f3,(fun k e=>(by cases e)),fun i hi hd=>⟨.inl (f5 i hi hd).1,fun k e=>.inl ((f5 i hi hd).2 k e)⟩⟩,fun e=>?_,h.inj,⟨h.live.2.1,h.live.2.1,(fun x hx=>(by cases hx)),h.live.2.2.2⟩,h.rows⟩,(KeptBut.of_below hb (S:=F)).trans hk (fun k _ e=>e ▸ f1)⟩
 ·exact hm.block (hk.block _ hlt (map_ne_blk hm h3.box))
 ·exact h3.last.block (hk.block _ h3.last.lt (map_ne_blk h3.last h3.box))
 ·obtain⟨a,b⟩:=h3.file i f hi hd;exact⟨a.keptB hk (blk_ne_blk a h3.box (by decide)),own_kept b hk (own_ne_blk b h3.box (by decide))⟩
 ·have:=h.last.lt;have e':w.heap.size=L.gL:=e;omega
end
def s2 (s:Dsk)(l:NM)(fs:List Fil):Dsk:={ s with off:=true,last:=l,names:=l,chg:=[],files:=fs }
structure CAt (w wr:World)(F:Nat→Prop)(d C:Nat)(cs:Array Value)(s:Dsk)(l:NM)(fin:List Fil)(c:Cra)(v:Value)(j kk:Nat):Prop where
 ex:∃fs L',DskAt wr (DFx F w wr) d L' (s2 s l fs)∧(∀f∈fs,f.k≤f.d.length∧f.d.length≤1048576)∧(∀p∈l,p.1.length≤24∧p.2<fs.length)∧crashGo c (l.drop j) fs kk=fin
 kept:KeptBut w wr F
 row:wr.ownsRow 0 9 1 v l.length (l.map fun p=>.string (bs p.1))
 box:Blk wr C 58 cs
 le:j≤l.length∧kk≤j
theorem getM_self:∀(m:NM),m.Pairwise (fun p q=>p.1≠q.1)→∀p∈m,getM p.1 m=some p.2
 | [],_,p,h=>by cases h
 | q::m,hp,p,h=>by
  obtain⟨h1,h2⟩:=List.pairwise_cons.1 hp;unfold getM;rw[List.find?_cons];rcases List.mem_cons.1 h with e | h
  ·subst e;simp
  ·have:=h1 p h;rw[show (q.1==p.1)=false from by simpa using this];exact getM_self m h2 p h
section
variable {w wr:World}{F:Nat→Prop}{d C:Nat}{cs:Array Value}{s:Dsk}{l:NM}{fin:List Fil}{c:Cra}{v:Value}{j kk:Nat}
theorem DFx.mono {F:Nat→Prop}{w w1 w2:World}(h:w1.heap.size≤w2.heap.size){k:Nat}(hk:DFx F w w1 k):DFx F w w2 k:=hk.imp id fun e=>⟨e.1,by omega⟩
theorem CAt.below (h:CAt w wr F d C cs s l fin c v j kk){wx:World}(hb:Below wr.heap.size wr wx):CAt w wx F d C cs s l fin c v j kk:=by
 obtain⟨fs,L',hD,hf,hl,hg⟩:=h.ex
 exact⟨⟨fs,L',(hD.below hb).more fun k hk=>DFx.mono hb.size hk,hf,hl,hg⟩,h.kept.then_below hb,own_block h.row fun k hk=>hb.block k (own_lt h.row k hk).2,h.box.below hb h.box.lt,h.le⟩
theorem row_form {v:Value}{f:List UInt8}(h:OwnB wr 0 v f)(hk:0<f.length):∃g cap,v=.slice (some ⟨g,0,none⟩) f.length cap∧f.length≤cap∧cap≤maxLen:=by
 rcases h.2 with⟨e,hn⟩ | ⟨g,cap,cur,e,_,_,h1,h2,_⟩
 ·omega
 ·exact⟨g,cap,e,h1,h2⟩
theorem CAt.done (h:CAt w wr F d C cs s l fin c v l.length kk):Went w wr F d (s2 s l fin):=by
 obtain⟨fs,L',h1,_,_,h3⟩:=h.ex;rw[List.drop_length] at h3;unfold crashGo at h3;subst h3;exact⟨h.kept,L',h1⟩
theorem CAt.round (h:CAt w wr F d C cs s l fin c v j kk)(hj:j<l.length):∃(n:List UInt8) (i:Nat) (f:Fil) (fs:List Fil) (L':Lay) (g cap:Nat),l[j]? = some (n,i)∧DskAt wr (DFx F w wr) d L' (s2 s l fs)∧fs[i]? = some f ∧
  (∀f∈fs,f.k≤f.d.length∧f.d.length≤1048576)∧(∀p∈l,p.1.length≤24∧p.2<fs.length)∧crashGo c (l.drop j) fs kk=fin∧v=.slice (some ⟨g,0,none⟩) l.length cap∧wr.cell? ⟨g,j,none⟩=some (.string (bs n))∧n.length≤24∧g<wr.heap.size ∧
  f.k≤f.d.length∧f.d.length≤1048576∧Blk wr (L'.blk i) 83 #[L'.row i,.int .i64 f.k]∧OwnB wr 0 (L'.row i) f.d ∧
  (Instr.lookup 72 (.map (some L'.gN)) (.string (bs n)) false).run Tryz.prog wr=.ok (.pointer (some ⟨L'.blk i,0,none⟩)) wr:=by
 obtain⟨fs,L',hD,hf,hl,hg⟩:=h.ex;have hp:l[j]∈l:=List.getElem_mem hj;obtain⟨h24,hil⟩:=hl _ hp;have hfi:fs[l[j].2]? = some fs[l[j].2]:=List.getElem?_eq_getElem hil;obtain⟨hk1,hk2⟩:=hf _ (List.getElem_mem hil);obtain⟨bi,oi⟩:=hD.file l[j].2 fs[l[j].2] hfi (hD.live.1 _ hp)
 have hkeys:l.Pairwise (fun p q=>p.1≠q.1):=by
  have:=hD.names.keys Tryz.underlying9;unfold mvM at this;rw[List.pairwise_map] at this;exact this
 have hlk:=hD.names.look (t:=72) (e:=76) Tryz.underlying9 Tryz.underlying72 (zero_file wr) (s:=bs l[j].1) (by rw[bs_size];unfold maxLen;omega);rw[bs_data,mvM_get,show (s2 s l fs).names=l from rfl,getM_self l hkeys _ hp] at hlk;rcases h.row.2 with⟨e,hn⟩ | ⟨g,cap,cur,e,_⟩
 ·omega
 ·have hcell:=World.ownsRow.cells h.row (g:=g) (by rw[e];rfl) j (.string (bs l[j].1)) (by rw[List.getElem?_map,List.getElem?_eq_getElem hj];rfl);rw[add_plain2,Nat.zero_add] at hcell;exact⟨l[j].1,l[j].2,_,fs,L',g,cap,List.getElem?_eq_getElem hj,hD,hfi,hf,hl,hg,e,hcell,h24,(own_lt h.row g (by rw[e];rfl)).2,hk1,hk2,bi,oi,hlk⟩
theorem drop_of {l:NM}{j:Nat}{p:List UInt8 × Nat}(h:l[j]? = some p):l.drop j=p::l.drop (j+1):=by
 obtain⟨hj,e⟩:=List.getElem?_eq_some_iff.1 h;rw[List.drop_eq_getElem_cons hj,e]
theorem CAt.skip (h:CAt w wr F d C cs s l fin c v j kk){n:List UInt8}{i:Nat}{f:Fil}{fs:List Fil}{L':Lay}(hn:l[j]? = some (n,i))(hD:DskAt wr (DFx F w wr) d L' (s2 s l fs))(hi:fs[i]? = some f)
  (hf:∀f∈fs,f.k≤f.d.length∧f.d.length≤1048576) (hl:∀p∈l,p.1.length≤24∧p.2<fs.length) (hg:crashGo c (l.drop j) fs kk=fin) (hk:¬f.k<f.d.length):CAt w wr F d C cs s l fin c v (j+1) kk:=by
 rw[drop_of hn,crashGo,hi] at hg;simp only[] at hg;rw[if_neg hk] at hg;have hj:=(List.getElem?_eq_some_iff.1 hn).1;exact⟨⟨fs,L',hD,hf,hl,hg⟩,h.kept,h.row,h.box,by omega,by have:=h.le;omega⟩
theorem CAt.crashed (h:CAt w wr F d C cs s l fin c v j kk){n:List UInt8}{i:Nat}{f:Fil}{fs:List Fil}{L':Lay}(hn:l[j]? = some (n,i))(hD:DskAt wr (DFx F w wr) d L' (s2 s l fs))(hi:fs[i]? = some f)
  (hf:∀f∈fs,f.k≤f.d.length∧f.d.length≤1048576) (hl:∀p∈l,p.1.length≤24∧p.2<fs.length) (hg:crashGo c (l.drop j) fs kk=fin) (hk:f.k<f.d.length) {g cap:Nat} (hrow:L'.row i=.slice (some ⟨g,0,none⟩) f.d.length cap) {e:Ending} {w1:World}
  (hc:FCr wr (L'.blk i) g cap f c kk e w1):CAt w (w1.setCell ⟨L'.blk i,1,none⟩ (.int .i64 ((f.k+keepN c kk (f.d.length-f.k):Nat):Int))) F d C cs s l fin c v (j+1) (kk+1):=by
 rw[drop_of hn,crashGo,hi] at hg;simp only[] at hg;rw[if_pos hk] at hg;have hj:=(List.getElem?_eq_some_iff.1 hn).1;obtain⟨hil,hie⟩:=List.getElem?_eq_some_iff.1 hi;obtain⟨_,hb,ho,hkb⟩:=hc;obtain⟨hf1,hf2⟩:=hf f (List.mem_of_getElem? hi);have hdl:=hD.live.1 _ (List.mem_of_getElem? hn);obtain⟨bi,oi⟩:=hD.file i f hi hdl
 have hown:(L'.row i).ownBlock=some g:=by rw[hrow];rfl
 have hfd:(crashF c kk f).d=f.d.take f.k++tailC c kk (f.d.drop f.k):=rfl
 have hfl:(f.d.take f.k++tailC c kk (f.d.drop f.k)).length=f.k+keepN c kk (f.d.length-f.k):=by
  rw[List.length_append,tailC_len,List.length_take,List.length_drop];omega
 have hk2:KeptBut wr (w1.setCell ⟨L'.blk i,1,none⟩ (.int .i64 ((f.k+keepN c kk (f.d.length-f.k):Nat):Int))) (fun k=>k=L'.blk i∨(L'.row i).ownBlock=some k):=by
  refine (hkb.mono fun k _ e=>?_).then_set (.inl rfl)
  rcases e with e | e
  ·exact .inl e
  ·exact .inr (by rw[hown,e])
 have hset:=hD.setFile (f':=crashF c kk f) (v:=.slice (some ⟨g,0,none⟩) (f.k+keepN c kk (f.d.length-f.k)) cap) hi hk2
  (by
   have:=hb.set_ 1 (.int .i64 ((f.k+keepN c kk (f.d.length-f.k):Nat):Int));have e2:(crashF c kk f).k=f.k+keepN c kk (f.d.length-f.k):=hfl;rw[e2]
   simpa using this)
  (by rw[hfd];exact own_block ho fun k hk'=>Below.heap_setCell _ _ _ _ (own_ne_blk ho hb (by decide) k hk'))
  (fun k e=>.inl (by rw[hown];exact e)) hdl
 have hs1:=hk2.size;have hsw:=h.kept.size;obtain⟨hset1,hset2⟩:=hset;refine⟨⟨fs.set i (crashF c kk f),_,hset1.more (fun k hk=>?_),fun x hx=>?_,fun p hp=>by rw[List.length_set];exact hl p hp,hg⟩,h.kept.trans hset2 (fun k hk0 e=>?_),?_,?_,by omega,by have:=h.le;omega⟩
 ·rcases hk with (hk | hk) | hk
  ·exact .inl hk
  ·exact .inr ⟨hk.1,by omega⟩
  ·exact .inr ⟨by omega,hk.2⟩
 ·rcases List.mem_or_eq_of_mem_set hx with h1 | rfl
  ·exact hf x h1
  ·exact crashF_ok ⟨hf1,hf2⟩
 ·rcases e with e | e
  ·exact e
  ·omega
 ·exact own_kept h.row hk2 fun k e1 e2=>e2.elim (fun e3=>own_ne_blk h.row bi (by decide) k e1 e3) (own_ne_own h.row oi (by decide) k e1)
 ·exact h.box.keptB hk2 (fun e=>e.elim (fun e=>blk_ne_blk bi h.box (by decide) e.symm) (fun e=>own_ne_blk oi h.box (by decide) _ e rfl))
end
set_option maxRecDepth 100000 in
set_option maxHeartbeats 4000000 in
theorem Crash_any {w:World}{F:Nat→Prop}{d:Nat}{L:Lay}{s:Dsk}(h:DskAt w F d L s)(ok:s.Ok)(hld:s.load≤536870912)(c:Cra)(KA PA:Option Addr)(kc pc:Nat)(hc:CraAt w c KA PA)
  (hA:∀ad,(c.keep≠[]∧KA=some ad)∨(c.spoil≠[]∧PA=some ad)→¬F ad.block) :
  Calls Tryz.prog 34 #[.pointer (some ⟨d,0,none⟩),craV c KA kc PA pc] w fun e w'=>e=.returned (.tuple #[])∧Went w w' F d (s.crash c):=by
 have hF:=h.inF;obtain⟨n,hn⟩:∃n:Nat,n=(min (max c.names 0) s.chg.length).toNat:=⟨_,rfl⟩
 obtain⟨l,hl⟩:∃l,(s.chg.take n).foldl doesC s.last=l:=⟨_,rfl⟩
 have hres:s.crash c=s2 s l (crashGo c l s.files 0):=by
  unfold Dsk.crash;rw[←hn,hl];rfl
 rw[hres];clear hres;have hdl:=h.lt;have hA1:Below w.heap.size w (w.alloc (.cells #[.int .i64 c.names,.slice KA c.keep.length kc,.slice PA c.spoil.length pc] 58)):=(Below.refl w.heap.size w).alloc (Nat.le_refl _) _;have hC1:Blk (w.alloc (.cells #[.int .i64 c.names,.slice KA c.keep.length kc,.slice PA c.spoil.length pc] 58)) w.heap.size 58 #[.int .i64 c.names,.slice KA c.keep.length kc,.slice PA c.spoil.length pc]:=Blk.new _ _ _;have hD1:=h.below hA1;have hno:=none_any hD1;have c4:=hD1.box.cell 4;have f4:=hD1.box.frozen 4
 have hk2:KeptBut (w.alloc (.cells #[.int .i64 c.names,.slice KA c.keep.length kc,.slice PA c.spoil.length pc] 58)) ((w.alloc (.cells #[.int .i64 c.names,.slice KA c.keep.length kc,.slice PA c.spoil.length pc] 58)).setCell ⟨d,4,none⟩ (.bool true)) (fun k=>k=d):=(KeptBut.refl _ _).then_set rfl
 have hD2:=hD1.rebox (s':={ s with off:=true }) hk2 (by simpa using hD1.box.set_ 4 (.bool true)) rfl rfl rfl rfl;have hC2:=hC1.keptB hk2 (by omega);have hK2:=(KeptBut.of_below hA1 (S:=F)).trans hk2 (fun k _ e=>e ▸ hF.1);have hsw:(w.alloc (.cells #[.int .i64 c.names,.slice KA c.keep.length kc,.slice PA c.spoil.length pc] 58)).setCell ⟨d,4,none⟩ (.bool true)=(w.setCell ⟨d,4,none⟩ (.bool true)).alloc (.cells #[.int .i64 c.names,.slice KA c.keep.length kc,.slice PA c.spoil.length pc] 58):=World.setCell_alloc_past _ _ _ _ hdl;rw[hsw] at hD2 hC2 hK2;clear hsw;replace hno:=Lib.hid hno;replace hD2:=Lib.hid hD2;replace hC2:=Lib.hid hC2;replace hK2:=Lib.hid hK2;replace hC1:=Lib.hid hC1;replace hA1:=Lib.hid hA1;clear hk2;unfold craV
 go_enter Tryz.func34,Tryz.ntmps34
 go_wp2_with fail
 refine hno.out.mono ?_;rintro e w' ⟨rfl,rfl⟩;go_wp2_with fail
 replace hD2:=hD2.out;replace hC2:=hC2.out;replace hK2:=hK2.out;clear c4 f4 hD1 hC1 hA1 hno
 generalize hw2:(w.setCell ⟨d,4,none⟩ (.bool true)).alloc (.cells #[.int .i64 c.names,.slice KA c.keep.length kc,.slice PA c.spoil.length pc] 58)=w2 at *
 clear hw2;obtain⟨A,cap,hvc,hcap1,hcap2,hat⟩:=chg_form hD2;simp only[] at hcap1 hat hvc
 have b3:w2.cell? ⟨d,3,none⟩=some (.slice A s.chg.length cap):=by
  have:=hD2.box.cell 3;rw[hvc] at this;exact this
 have q0:=hC2.cell 0;have lC:=hC2.lt;have lD:=hD2.lt
 have hnle:n≤s.chg.length:=by omega
 have hm2:min (max c.names 0) (s.chg.length:Int)=(n:Int):=by omega
 have hncap:(n:Int)≤cap:=by omega
 have hmA:=add_zero_map A;replace hat:=Lib.hid hat;replace hvc:=Lib.hid hvc;replace hK2:=Lib.hid hK2;replace hn:=Lib.hid hn;replace hl:=Lib.hid hl;have hxc:=@Ext.cell;have hxf:=@Ext.frozen;refine wp_hide (fun Q0 hQ0=>?_);refine wp_region_line (fun w'=>∃x:Ext _,w'=x.w) [some false,some false,some false,some false,some false,some false,some false,some false,some false,some false,some false,some false,some false,some false,some false,some false] 0 (by kernel_rfl) (by kernel_rfl) ⟨⟨_,(Below.refl _ _).drew⟩,rfl⟩ ?_;simp only[earlyL,tailL]
 repeat (first | ((with_reducible refine wpMix_p ?_);go_big_quiet_step (fail);refine wpQuiet_nil ?_) | ((with_reducible refine wpMix_e ?_);go_big_quiet_step ((first | fail));refine wpQuiet_nil ?_))
 refine wpMix_nil ?_;clear hxc hxf;intro wx hwx;obtain⟨x,hx⟩:=hwx;have hb:=x.below;rw[←hx] at hb;clear hx x;refine wpTail_nil ?_;refine hQ0 _ _ ?_;clear hQ0 Q0;have hD3:=hD2.below hb;have hC3:=hC2.below hb lC
 have hK3:=hK2.out.then_below hb
 clear b3 q0 hm2 hmA hb;replace hD2:=Lib.hid hD2;replace hC2:=Lib.hid hC2;replace hD3:=Lib.hid hD3;replace hC3:=Lib.hid hC3;replace hK3:=Lib.hid hK3;go_wp2_with fail
 go_loopw [30] (fun v wr=>∃i:Nat,i≤n∧v=.int .i64 i∧DskAt wr F d L { s with off:=true,last:=(s.chg.take i).foldl doesC s.last }∧Blk wr w.heap.size 58 #[.int .i64 c.names,.slice KA c.keep.length kc,.slice PA c.spoil.length pc]∧KeptBut w wr F) (fun v _=>n-(intOf v).toNat)
 case atStart=>exact⟨0,Nat.zero_le _,rfl,hD3.out,hC3.out,hK3.out⟩
 case round =>
  obtain⟨i,hi,rfl,hDr,hCr,hKr⟩:=hrel
  by_cases hlt:i<n
  ·have hlt':(i:Int)<n:=by omega
   have hci:s.chg[i]? = some s.chg[i]:=List.getElem?_eq_getElem (by omega);obtain⟨A',cap',hvc',_,_,hat'⟩:=chg_form hDr;simp only[] at hvc' hat';obtain⟨g,e,hown,hgl,x0,x1,x2⟩:=hat' i _ hci;have hvv:=hvc.out.symm.trans hvc';simp only[Value.slice.injEq,true_and] at hvv;obtain⟨hv1,hv2⟩:=hvv;rw[←hv1] at e;subst e;clear hvc' hv1 hv2 hat' hown;obtain⟨pa,hpa⟩:=ptrV_form (s.chg[i].f.map L.blk);rw[hpa] at x2;obtain⟨y1,y2,y3,y4⟩:=ok.chg _ (List.getElem_mem (show i<s.chg.length by omega))
   have hlen:=doesAll_len (s.chg.take i) s.last
   rw[List.length_take] at hlen;have hld':=hld;unfold Dsk.load at hld'
   generalize s.chg[i]=ch at *
   replace hpa:=Lib.hid hpa;replace hDr:=Lib.hid hDr;replace hCr:=Lib.hid hCr;replace hKr:=Lib.hid hKr;replace hci:=Lib.hid hci;go_wp2_with fail
   have hAl:Below wr.heap.size wr (wr.alloc (.cells #[.string (bs ch.fr),.string (bs ch.toN),.pointer pa] 85)):=(Below.refl _ _).alloc (Nat.le_refl _) _;have hX5:Blk (wr.alloc (.cells #[.string (bs ch.fr),.string (bs ch.toN),.pointer pa] 85)) wr.heap.size 85 #[.string (bs ch.fr),.string (bs ch.toN),.pointer pa]:=Blk.new _ _ _;have hD5:=hDr.out.below hAl;have hC5:=hCr.out.below hAl hCr.out.lt
   have hK5:=hKr.out.then_below hAl
   generalize hw5:wr.alloc (.cells #[.string (bs ch.fr),.string (bs ch.toN),.pointer pa] 85)=w5 at *
   clear hw5 hAl x0 x1 x2;have x0:=hX5.cell 0;have x1:=hX5.cell 1;have x2:=hX5.cell 2;have b2:=hD5.box.cell 2;have hl5:=hX5.lt;have hd5:=hD5.lt;have hc5:=hC5.lt;replace hD5:=Lib.hid hD5;replace hC5:=Lib.hid hC5;replace hK5:=Lib.hid hK5;replace hX5:=Lib.hid hX5;have hxc:=@Ext.cell;have hxf:=@Ext.frozen;refine wp_hide (fun Q0 hQ0=>?_);refine wp_region_line (fun w'=>∃x:Ext _,w'=x.w) [some false,some false,some false,some false,some false,none] 0 (by kernel_rfl) (by kernel_rfl) ⟨⟨_,(Below.refl _ _).drew⟩,rfl⟩ ?_;simp only[earlyL,tailL]
   repeat (first | ((with_reducible refine wpMix_p ?_);go_big_quiet_step (fail);refine wpQuiet_nil ?_) | ((with_reducible refine wpMix_e ?_);go_big_quiet_step ((first | fail));refine wpQuiet_nil ?_))
   refine wpMix_nil ?_;clear hxc hxf;intro wx hwx;obtain⟨x,hx⟩:=hwx;have hb:=x.below;rw[←hx] at hb;clear hx x;have hD6:=hD5.out.below hb;have hC6:=hC5.out.below hb hc5
   have hK6:=hK5.out.then_below hb
   have hcall:=does_any wx L.gL ((s.chg.take i).foldl doesC s.last) L.blk ch hD6.last y1 y2 y4 (by omega)
   unfold chgVal at hcall;rw[hpa.out] at hcall;clear x0 x1 x2 b2 hb;replace hcall:=Lib.hid hcall;refine wpTail_step ?_;intro Q1 hQ1;go_wp2_with fail
   refine hcall.out.mono ?_;rintro e w7 ⟨rfl,hm7,hk7⟩
   have hD7:=hD6.relasts hk7 hm7 (fun p hp=>by
    rcases doesC_mem hp with h1 | ⟨h1,rfl⟩
    ·exact hD6.live.2.1 p h1
    ·obtain⟨i',hi'⟩:=Option.ne_none_iff_exists'.1 (y4 h1);simp only[hi',Option.getD_some]
     exact hD6.live.2.2.1 _ (List.mem_of_getElem? hci.out) _ hi')
   have hC7:=hC6.keptB hk7 (fun e=>map_ne_blk hD6.last hC6 e.symm);have hK7:=hK6.trans hk7 (fun k _ e=>e ▸ hF.2.2.1)
   have htk:doesC ((s.chg.take i).foldl doesC s.last) ch=(s.chg.take (i+1)).foldl doesC s.last:=by
    rw[List.take_add_one,hci.out,List.foldl_append];rfl
   rw[htk] at hD7;replace hD7:=Lib.hid hD7;replace hC7:=Lib.hid hC7;replace hK7:=Lib.hid hK7;clear hk7 hm7 hK6 hC6 hD6 htk;go_wp2_with fail
   refine hQ1 _ _ rfl (fun h=>absurd h (by decide)) ?_;clear hQ1 Q1 hcall;refine wpTail_nil ?_;refine hQ0 _ _ ?_;clear hQ0 Q0;go_wp2_with fail
   go_roundw
   case rel=>exact⟨i+1,by omega,by rfl,hD7.out,hC7.out,hK7.out⟩
   case measure=>first | omega | (simp only[intOf];omega)
  ·obtain rfl:i=n:=by omega
   have hlt':¬(i:Int)<i:=by omega
   have hll:=doesAll_len (s.chg.take i) s.last
   rw[List.length_take] at hll;have hld':=hld;unfold Dsk.load at hld'
   have hl24:=doesAll_ok (n:=s.files.length) (s.chg.take i) s.last ok.last (fun x hx=>ok.chg x (List.mem_of_mem_take hx))
   have hlx:=hl.out;rw[hlx] at hll hl24 hDr;clear hlx
   have hll':l.length≤536870912:=by omega
   clear hll hld';have hcl:=Clone_any hDr.last;have b2:=hDr.box.cell 2;have hdr:=hDr.lt;replace hcl:=Lib.hid hcl;replace hl24:=Lib.hid hl24;go_wp2_with fail
   refine hcl.out.mono ?_;rintro e w8 ⟨rfl,hm8,hb8,hlt8⟩;have hbx:=hDr.box.below hb8 hdr;have g1:=hbx.frozen 1;have g3:=hbx.frozen 3;have b1:=hbx.cell 1;have b3:=hbx.cell 3;have hC8:=hCr.below hb8 hCr.lt
   have hk9:=((KeptBut.refl w8 (fun k=>k=d)).then_set (b:=d) (o:=1) (v:=.map (some wr.heap.size)) rfl).then_set (b:=d) (o:=3) (v:=.slice none 0 0) rfl
   obtain⟨hD9,hK9⟩:=hDr.recrash hm8 hb8 hlt8 hk9 (by simpa using (hbx.set_ 1 (.map (some wr.heap.size))).set_ 3 (.slice none 0 0));have hK9':=hKr.trans hK9 (fun k _ e=>e);have hC9:=hC8.keptB hk9 (by omega);have hs8:=hb8.size;have hsr:=hKr.size;have hd8:d<w8.heap.size:=hbx.lt;replace hD9:=Lib.hid hD9;replace hK9':=Lib.hid hK9';replace hC9:=Lib.hid hC9;clear hk9 hK9 hC8 hbx hb8 hm8 hcl b2;go_wp2_with fail
   generalize hw9:(w8.setCell ⟨d,1,none⟩ (.map (some wr.heap.size))).setCell ⟨d,3,none⟩ (.slice none 0 0)=w9 at *
   have hs9:w9.heap.size=w8.heap.size:=by rw[←hw9];simp
   clear hw9 g1 g3 b1 b3;have hls:=List_any hD9.out (by show l.length<_;omega);replace hls:=Lib.hid hls;refine hls.out.mono ?_;rintro e w10 ⟨v,rfl,hrow,hb10⟩;have hs10:=hb10.size
   have hCA:CAt w w10 F d w.heap.size #[.int .i64 c.names,.slice KA c.keep.length kc,.slice PA c.spoil.length pc] s l (crashGo c l s.files 0) c v 0 0 :=
    ⟨⟨s.files,_,(hD9.out.below hb10).more (fun k hk=>hk.elim .inl fun e=>.inr ⟨by omega,by omega⟩),ok.file,hl24.out,rfl⟩,hK9'.out.then_below hb10,hrow,hC9.out.below hb10 hC9.out.lt,Nat.zero_le _,Nat.le_refl _⟩
   obtain⟨A9,c9,hv⟩:∃A c,v=.slice A l.length c:=by
    rcases hrow.2 with⟨e,h0⟩ | ⟨g,cap,cur,e,_⟩
    ·have h0':l.length=0:=h0;exact⟨none,0,by rw[e,h0']⟩
    ·exact⟨_,cap,e⟩
   have hv':=Lib.hid hv;subst hv;replace hCA:=Lib.hid hCA;clear hrow hb10 hls;go_wp2_with fail
   go_loopw [6,55] (fun kv iv wq=>∃(j kk:Nat),iv=.int .i64 j∧kv=.int .i64 kk∧CAt w wq F d w.heap.size #[.int .i64 c.names,.slice KA c.keep.length kc,.slice PA c.spoil.length pc] s l (crashGo c l s.files 0) c (.slice A9 l.length c9) j kk) (fun _ iv _=>l.length-(intOf iv).toNat)
   case atStart=>exact⟨0,0,rfl,rfl,hCA.out⟩
   case round =>
    obtain⟨j,kk,rfl,rfl,hQ⟩:=hrel;have hjl:=hQ.le
    by_cases hjn:j<l.length
    ·have hjn':(j:Int)<(l.length:Int):=by omega
     obtain⟨nm,fi,f,fs,L',g,cp,hlj,hDq,hfi,hfs,hlf,hgo,hvv,hcell,h24,hgq,hk1,hk2,bi,oi,hlk⟩:=hQ.round hjn;obtain⟨A2,c2,hrw⟩:=oi.form;have b1:=hDq.box.cell 1;have hdq:=hDq.lt;have r0:=bi.cell 0;have r1:=bi.cell 1;rw[hrw] at r0;have hbl:=bi.lt;simp only[Value.slice.injEq,true_and] at hvv;obtain⟨hv1,hv2⟩:=hvv;subst hv1 hv2;replace hlj:=Lib.hid hlj;replace hDq:=Lib.hid hDq;replace hfi:=Lib.hid hfi;replace hfs:=Lib.hid hfs;replace hlf:=Lib.hid hlf;replace hgo:=Lib.hid hgo;replace hQ:=Lib.hid hQ;replace hrw:=Lib.hid hrw;go_wp2_with fail
     by_cases hkl:f.k<f.d.length
     ·have hkl':(f.k:Int)<(f.d.length:Int):=by omega
      have hxc:=@Ext.cell;have hxf:=@Ext.frozen;refine wp_hide (fun Q0 hQ0=>?_);refine wp_region_line (fun w'=>∃x:Ext _,w'=x.w) [some false,some false,some false,some false,some false,some false,some false,some false,some false,some false] 0 (by kernel_rfl) (by kernel_rfl) ⟨⟨_,(Below.refl _ _).drew⟩,rfl⟩ ?_;simp only[earlyL,tailL]
      repeat (first | ((with_reducible refine wpMix_p ?_);go_big_quiet_step (fail);refine wpQuiet_nil ?_) | ((with_reducible refine wpMix_e ?_);go_big_quiet_step ((first | fail));refine wpQuiet_nil ?_))
      refine wpMix_nil ?_;clear hxc hxf;intro wx hwx;obtain⟨x,hx⟩:=hwx;have hb:=x.below;rw[←hx] at hb;clear hx x;refine wpTail_nil ?_;refine hQ0 _ _ ?_;clear hQ0 Q0;have hQx:=hQ.out.below hb;have hDx:=(hDq.out.below hb).more fun k hk=>DFx.mono hb.size hk;have hdlx:=hDx.live.1 _ (List.mem_of_getElem? hlj.out);obtain⟨bx,ox⟩:=hDx.file fi f hfi.out hdlx;obtain⟨g2,cp2,hr2,hcp1,hcp2⟩:=row_form ox (by omega);have bx':=bx;rw[hr2] at bx' ox;have hx0:=hQx.box.cell 0;have hx1:=hQx.box.cell 1;have hx2:=hQx.box.cell 2;have hbF:=(hDx.inF.2.2.2.2 fi (List.getElem?_eq_some_iff.1 hfi.out).1 hdlx)
      have hcall:=fcrash_any bx' ox hkl hk2 c KA PA kc pc (hc.kept hQx.kept hA) ⟨hcp1,hcp2⟩ kk (by omega) (fun ad hne e=>by
       have a1:=hA ad (.inr ⟨hne,e⟩)
       have a2:ad.block<w.heap.size:=by
        obtain⟨ad',e',h',_⟩:=hc.spoil.2 (by cases hcs:c.spoil with | nil=>exact absurd hcs hne | cons _ _=>simp);rw[e] at e';injection e' with e';rw[e'];exact h'
       refine⟨?_,?_⟩
       ·rintro e2;rcases hbF.1 with e3 | e3
        ·exact a1 (e2 ▸ e3)
        ·omega
       ·rintro e2;rcases hbF.2 g2 (by rw[hr2];rfl) with e3 | e3
        ·exact a1 (e2 ▸ e3)
        ·omega)
      unfold craV at hcall;replace hcall:=Lib.hid hcall;replace bx:=Lib.hid bx;replace bx':=Lib.hid bx';replace ox:=Lib.hid ox;replace hr2:=Lib.hid hr2;replace hDx:=Lib.hid hDx;replace hQx:=Lib.hid hQx;clear r0 r1 hcell hlk b1 hbF hb;go_wp2_with fail
      refine hcall.out.mono ?_;rintro e w7 hFC;have hnext:=hQx.out.crashed hlj.out hDx.out hfi.out hfs.out hlf.out hgo.out hkl hr2.out hFC;obtain⟨rfl,hb7,_,_⟩:=hFC;obtain⟨q,hq⟩:∃q,q=f.k+keepN c kk (f.d.length-f.k):=⟨_,rfl⟩;rw[←hq] at hnext hb7;have r0:=hb7.cell 0;have r1:=hb7.cell 1;have rf:=hb7.frozen 1;replace hq:=Lib.hid hq;replace hnext:=Lib.hid hnext;replace hb7:=Lib.hid hb7;go_wp2_with fail
      go_roundw
      case rel=>exact⟨j+1,kk+1,by rfl,by rfl,hnext.out⟩
      case measure=>first | omega | (simp only[intOf];omega)
     ·have hkl':¬(f.k:Int)<(f.d.length:Int):=by omega
      have hnext:=fun wx hb=>(hQ.out.skip hlj.out hDq.out hfi.out hfs.out hlf.out hgo.out hkl).below (wx:=wx) hb;replace hnext:=Lib.hid hnext;have hxc:=@Ext.cell;have hxf:=@Ext.frozen;refine wp_hide (fun Q0 hQ0=>?_);refine wp_region_line (fun w'=>∃x:Ext _,w'=x.w) [some false,some false,some false,some false,some false,some false,some false,some false,some false,some false] 0 (by kernel_rfl) (by kernel_rfl) ⟨⟨_,(Below.refl _ _).drew⟩,rfl⟩ ?_;simp only[earlyL,tailL]
      repeat (first | ((with_reducible refine wpMix_p ?_);go_big_quiet_step (fail);refine wpQuiet_nil ?_) | ((with_reducible refine wpMix_e ?_);go_big_quiet_step ((first | fail));refine wpQuiet_nil ?_))
      refine wpMix_nil ?_;clear hxc hxf;intro wx hwx;obtain⟨x,hx⟩:=hwx;have hb:=x.below;rw[←hx] at hb;clear hx x;refine wpTail_nil ?_;refine hQ0 _ _ ?_;clear hQ0 Q0;have hnext:=hnext.out wx hb;replace hnext:=Lib.hid hnext;clear r0 r1 hcell hlk b1 hb;go_wp2_with fail
      go_roundw
      case rel=>exact⟨j+1,kk,by rfl,by rfl,hnext.out⟩
      case measure=>first | omega | (simp only[intOf];omega)
    ·obtain rfl:j=l.length:=by omega
     have hfin:=hQ.done
     replace hfin:=Lib.hid hfin;replace hQ:=Lib.hid hQ
     have hjn':¬(l.length:Int)<(l.length:Int):=by omega
     go_wp2_with fail
     go_end0
     exact⟨rfl,hfin.out⟩
end Go.Proofs.YtlpojfgeocpkeaaGreatDoor
namespace Go.Proofs.YtlpojfgeocpkeaaGreatDoor
set_option linter.unusedVariables false
set_option linter.unusedSimpArgs false
def One (m:NM):Prop:=(m.map fun p=>p.2).Nodup∧∀p∈m,p.1≠[]
theorem insM_perm (x:List UInt8 × Nat):∀m:NM,(insM x m).Perm (x::m)
 | []=>List.Perm.refl _
 | y::r=>by
  unfold insM;split
  ·exact List.Perm.refl _
  ·exact ((insM_perm x r).cons y).trans (List.Perm.swap x y r)
theorem One.del {m:NM}(h:One m)(k:List UInt8):One (delM k m):=by
 refine⟨?_,fun p hp=>h.2 p ((delM_mem k p m).1 hp).1⟩;unfold delM;exact h.1.sublist (List.filter_sublist.map _)
theorem One.put {m:NM}(h:One m){k:List UInt8}{v:Nat}(hv:∀p∈m,p.2=v→p.1=k)(hk:k≠[]):One (putM k v m):=by
 refine⟨?_,fun p hp=>?_⟩
 rotate_left
 ·rcases (putM_mem k v p m).1 hp with rfl | h1
  ·exact hk
  ·exact h.2 p h1.1
 unfold putM;rw[((insM_perm (k,v) (delM k m)).map fun p=>p.2).nodup_iff,List.map_cons,List.nodup_cons];refine⟨fun hm=>?_,(h.del k).1⟩;obtain⟨p,hp,e⟩:=List.mem_map.1 hm;have:=(delM_mem k p m).1 hp;exact this.2 (hv p this.1 e)
theorem One.inj {m:NM}(h:One m){p q:List UInt8 × Nat}(hp:p∈m)(hq:q∈m)(e:p.2=q.2):p=q:=by
 replace h:=h.1
 induction m with
 | nil=>cases hp
 | cons y r ih =>
  rw[List.map_cons,List.nodup_cons] at h;obtain⟨h1,h2⟩:=h;rcases List.mem_cons.1 hp with ep | hp'
  ·rcases List.mem_cons.1 hq with eq | hq'
   ·rw[ep,eq]
   ·exact absurd (List.mem_map.2 ⟨q,hq',by rw[←e,ep]⟩) h1
  ·rcases List.mem_cons.1 hq with eq | hq'
   ·exact absurd (List.mem_map.2 ⟨p,hp',by rw[e,eq]⟩) h1
   ·exact ih hp' hq' h2
structure Dsk.Dir (s:Dsk):Prop where
 now:s.names=s.chg.foldl doesC s.last
 one:∀j,One ((s.chg.take j).foldl doesC s.last)
theorem Dsk.Dir.cur {s:Dsk}(h:s.Dir):One s.names:=by
 have:=h.one s.chg.length;rw[List.take_length,←h.now] at this;exact this
theorem Dsk.Dir.of_eq {s t:Dsk}(h:s.Dir)(h1:t.names=s.names)(h2:t.last=s.last)(h3:t.chg=s.chg):t.Dir:=⟨by rw[h1,h2,h3];exact h.now,by rw[h2,h3];exact h.one⟩
theorem Dsk.Dir.burn {s:Dsk}(h:s.Dir):s.burn.Dir:=by
 obtain⟨_,h2,h3,h4,_,_⟩:=@Dsk.burn_same s;exact h.of_eq h2 h3 h4
theorem Dsk.Dir.changed {s:Dsk}(h:s.Dir){c:Chg}(hc:One (doesC s.names c)):(s.changed c).1.Dir:=by
 obtain⟨e1,e2,e3,e4,e5,e6⟩:=@Dsk.burn_same s;have hb:=h.burn;unfold Dsk.changed;split
 ·exact hb
 ·refine⟨?_,fun j=>?_⟩
  ·simp only[List.foldl_append,List.foldl_cons,List.foldl_nil];rw[hb.now]
  ·simp only[]
   by_cases hj:j≤s.burn.chg.length
   ·rw[List.take_append_of_le_length hj];exact hb.one j
   ·rw[List.take_of_length_le (by simp;omega),List.foldl_append,←hb.now,e2];exact hc
theorem Dsk.Dir.create {s:Dsk}(h:s.Dir)(ok:s.Ok)(n:Nm):(s.create n).1.Dir:=by
 unfold Dsk.create;split
 ·exact h
 ·split
  ·exact h
  ·split
   ·refine Dsk.Dir.changed (s:={ s with files:=s.files++[⟨[],0⟩] }) (h.of_eq rfl rfl rfl) ?_
    unfold doesC
    simp only[if_true,Option.getD_some];split
    ·exact h.cur
    ·rename_i hne
     exact h.cur.put (fun p hp e=>by have:=(ok.names p hp).2;omega) hne
   ·exact h
theorem Dsk.Dir.delete {s:Dsk}(h:s.Dir)(n:Nm):(s.delete n).1.Dir:=by
 unfold Dsk.delete;split
 ·exact h
 ·split
  ·exact h
  ·refine h.changed ?_
   unfold doesC
   simp only[if_true];split
   ·exact h.cur
   ·exact h.cur.del n
theorem Dsk.Dir.append {s:Dsk}(h:s.Dir)(n:Nm)(x:List UInt8):(s.append n x).1.Dir:=by
 unfold Dsk.append;split
 ·exact h
 ·split
  ·exact h
  ·split
   ·exact h
   ·split
    ·exact h.burn
    ·exact h.burn.of_eq rfl rfl rfl
theorem Dsk.Dir.sync {s:Dsk}(h:s.Dir)(n:Nm):(s.sync n).1.Dir:=by
 unfold Dsk.sync;split
 ·exact h
 ·split
  ·exact h
  ·split
   ·exact h.burn
   ·exact h.burn.of_eq rfl rfl rfl
theorem Dsk.Dir.dirsync {s:Dsk}(h:s.Dir):s.dirsync.1.Dir:=by
 unfold Dsk.dirsync;split
 ·exact h
 ·split
  ·exact h.burn
  ·exact⟨rfl,fun j=>by simp only[List.take_nil,List.foldl_nil];exact h.burn.cur⟩
theorem Dsk.Dir.start {s:Dsk}(h:s.Dir):s.start.Dir:=h.of_eq rfl rfl rfl
theorem Dsk.Dir.crash {s:Dsk}(h:s.Dir)(c:Cra):(s.crash c).Dir:=by
 unfold Dsk.crash;exact⟨rfl,fun j=>by simp only[List.take_nil,List.foldl_nil];exact h.one _⟩
theorem Dsk.Dir.new (r:Int):(Dsk.new r).Dir:=⟨rfl,fun j=>by
 unfold Dsk.new;simp only[List.take_nil,List.foldl_nil]
 exact⟨List.nodup_nil,fun p hp=>by cases hp⟩⟩
theorem getM_cons (n:List UInt8)(p:List UInt8 × Nat)(m:NM):getM n (p::m)=if p.1=n then some p.2 else getM n m:=by
 unfold getM;rw[List.find?_cons]
 by_cases h:p.1=n
 ·rw[show (p.1==n)=true from by simpa using h,if_pos h];rfl
 ·rw[show (p.1==n)=false from by simpa using h,if_neg h]
theorem getM_del {n k:List UInt8}(h:k≠n):∀m:NM,getM n (delM k m)=getM n m
 | []=>rfl
 | p::m=>by
  unfold delM;rw[List.filter_cons]
  by_cases hp:p.1=k
  ·have e:(!(p.1==k))=false:=by simpa using hp
   rw[if_neg (by rw[e];decide),getM_cons,if_neg (fun e2=>h (hp.symm.trans e2))];exact getM_del h m
  ·have e:(!(p.1==k))=true:=by simpa using hp
   rw[if_pos e,getM_cons,getM_cons];have:=getM_del h m;unfold delM at this;rw[this]
theorem getM_ins {n:List UInt8}{x:List UInt8 × Nat}(h:x.1≠n):∀m:NM,getM n (insM x m)=getM n m
 | []=>by unfold insM;rw[getM_cons,if_neg h]
 | p::m=>by
  unfold insM;split
  ·rw[getM_cons,if_neg h]
  ·rw[getM_cons,getM_cons,getM_ins h m]
theorem getM_put {n k:List UInt8}{v:Nat}(h:k≠n)(m:NM):getM n (putM k v m)=getM n m:=by
 unfold putM;rw[getM_ins h,getM_del h]
theorem getM_does {n:List UInt8}{c:Chg}(h1:c.fr≠n)(h2:c.toN≠n)(m:NM):getM n (doesC m c)=getM n m:=by
 unfold doesC
 simp only[]
 by_cases e1:c.fr=[]
 ·rw[if_pos e1];split
  ·rfl
  ·exact getM_put h2 m
 ·rw[if_neg e1];split
  ·exact getM_del h1 m
  ·rw[getM_put h2,getM_del h1]
structure Held (s:Dsk)(n:Nm)(f:Nat)(d:List UInt8):Prop where
 names:getM n s.names=some f
 last:getM n s.last=some f
 onN:∀p∈s.names,p.2=f→p.1=n
 onL:∀p∈s.last,p.2=f→p.1=n
 chg:∀c∈s.chg,c.fr≠n∧c.toN≠n∧(c.toN≠[]→c.f.getD 0≠f)
 file:s.files[f]? = some ⟨d,d.length⟩
section
variable {s:Dsk}{n:Nm}{f:Nat}{d:List UInt8}
theorem only_does {m:NM}{c:Chg}(hm:∀p∈m,p.2=f→p.1=n)(hc:c.toN≠[]→c.f.getD 0≠f):∀p∈doesC m c,p.2=f→p.1=n:=by
 intro p hp e
 rcases doesC_mem hp with h | ⟨h,rfl⟩
 ·exact hm p h e
 ·exact absurd e (hc h)
theorem Held.burn (h:Held s n f d):Held s.burn n f d:=by
 obtain⟨h1,h2,h3,h4,_,_⟩:=@Dsk.burn_same s;exact⟨by rw[h2];exact h.names,by rw[h3];exact h.last,by rw[h2];exact h.onN,by rw[h3];exact h.onL,by rw[h4];exact h.chg,by rw[h1];exact h.file⟩
theorem Held.changed (h:Held s n f d){c:Chg}(h1:c.fr≠n)(h2:c.toN≠n)(h3:c.toN≠[]→c.f.getD 0≠f):Held (s.changed c).1 n f d:=by
 have hb:=h.burn;unfold Dsk.changed;split
 ·exact hb
 ·refine⟨by simp only[];rw[getM_does h1 h2];exact hb.names,hb.last,only_does hb.onN h3,hb.onL,fun x hx=>?_,hb.file⟩;simp only[List.mem_append,List.mem_singleton] at hx;rcases hx with hx | rfl
  ·exact hb.chg x hx
  ·exact⟨h1,h2,h3⟩
theorem all_does {cs:List Chg}:∀(m:NM),getM n m=some f→(∀p∈m,p.2=f→p.1=n)→(∀c∈cs,c.fr≠n∧c.toN≠n∧(c.toN≠[]→c.f.getD 0≠f))→getM n (cs.foldl doesC m)=some f∧∀p∈cs.foldl doesC m,p.2=f→p.1=n:=by
 induction cs with
 | nil=>exact fun m h1 h2 _=>⟨h1,h2⟩
 | cons c cs ih =>
  intro m h1 h2 h3;obtain⟨a,b,e⟩:=h3 c (by simp)
  exact ih (doesC m c) (by rw[getM_does a b];exact h1) (only_does h2 e) (fun x hx=>h3 x (List.mem_cons_of_mem _ hx))
theorem crashGo_held (c:Cra)(f:Nat)(d:List UInt8):∀(m:NM) (fs:List Fil) (k:Nat),fs[f]? = some ⟨d,d.length⟩→(crashGo c m fs k)[f]? = some ⟨d,d.length⟩
 | [],fs,k,h=>h
 | p::r,fs,k,h=>by
  unfold crashGo
  cases hp:fs[p.2]? with
  | none=>exact crashGo_held c f d r fs k h
  | some g =>
   simp only[];split
   ·rename_i hlt
    refine crashGo_held c f d r _ _ ?_
    have hne:p.2≠f:=by
     rintro e;rw[e,h] at hp;injection hp with hp;subst hp;simp at hlt
    rw[List.getElem?_set_ne hne];exact h
   ·exact crashGo_held c f d r fs k h
theorem Held.crash (h:Held s n f d)(c:Cra):Held (s.crash c) n f d:=by
 have:=all_does (cs:=s.chg.take (min (max c.names 0) s.chg.length).toNat) s.last h.last h.onL (fun x hx=>h.chg x (List.mem_of_mem_take hx));unfold Dsk.crash;exact⟨this.1,this.1,this.2,this.2,(fun x hx=>(by cases hx)),crashGo_held c f d _ _ _ h.file⟩
theorem Held.other (h:Held s n f d){m:Nm}(hm:m≠n){i:Nat}(hi:getM m s.names=some i):i≠f:=by
 rintro rfl;exact hm (h.onN _ (getM_mem hi) rfl)
theorem Held.setF (h:Held s n f d){i:Nat}(hi:i≠f)(g:Fil→Fil):Held (s.setF i g) n f d:=by
 refine⟨h.names,h.last,h.onN,h.onL,h.chg,?_⟩;unfold Dsk.setF;simp only[];split
 ·rw[List.getElem?_set_ne hi];exact h.file
 ·exact h.file
theorem Held.create (h:Held s n f d)(hn:n≠[]){m:Nm}(hm:m≠n):Held (s.create m).1 n f d:=by
 unfold Dsk.create;split
 ·exact h
 ·split
  ·exact h
  ·split
   ·have hf:f<s.files.length:=(List.getElem?_eq_some_iff.1 h.file).1;have h2:Held { s with files:=s.files++[⟨[],0⟩] } n f d:=⟨h.names,h.last,h.onN,h.onL,h.chg,by rw[List.getElem?_append_left hf];exact h.file⟩;exact h2.changed (fun e=>hn e.symm) hm (fun _=>by simp only[Option.getD_some];omega)
   ·exact h
theorem Held.delete (h:Held s n f d)(hn:n≠[]){m:Nm}(hm:m≠n):Held (s.delete m).1 n f d:=by
 unfold Dsk.delete;split
 ·exact h
 ·split
  ·exact h
  ·exact h.changed hm (fun e=>hn e.symm) (fun e=>absurd rfl e)
theorem Held.append (h:Held s n f d){m:Nm}(hm:m≠n)(x:List UInt8):Held (s.append m x).1 n f d:=by
 unfold Dsk.append;split
 ·exact h
 ·split
  ·exact h
  ·rename_i i hi
   split
   ·exact h
   ·split
    ·exact h.burn
    ·exact h.burn.setF (h.other hm hi) _
theorem Held.sync (h:Held s n f d){m:Nm}(hm:m≠n):Held (s.sync m).1 n f d:=by
 unfold Dsk.sync;split
 ·exact h
 ·split
  ·exact h
  ·rename_i i hi
   split
   ·exact h.burn
   ·exact h.burn.setF (h.other hm hi) _
theorem Held.dirsync (h:Held s n f d):Held s.dirsync.1 n f d:=by
 unfold Dsk.dirsync;split
 ·exact h
 ·split
  ·exact h.burn
  ·exact⟨h.burn.names,h.burn.names,h.burn.onN,h.burn.onN,(fun x hx=>(by cases hx)),h.burn.file⟩
theorem Held.start (h:Held s n f d):Held s.start n f d:=⟨h.names,h.last,h.onN,h.onL,h.chg,h.file⟩
theorem Held.read (h:Held s n f d)(ho:s.off=false):s.read n=(d,0):=by
 unfold Dsk.read;rw[if_neg (by rw[ho];decide),h.names];simp only[h.file]
end
structure AAct where
 c:Nat
 a:ByteArray
 b:ByteArray
 n:Int
 cr:Cra
namespace AAct
def na (x:AAct):List UInt8:=x.a.data.toList
def nb (x:AAct):List UInt8:=x.b.data.toList
end AAct
def Dsk.act (s:Dsk)(x:AAct):Dsk × (List UInt8 × Nat) :=
 if x.c=0 then ((s.create x.na).1,[],(s.create x.na).2)
 else if x.c=1 then ((s.append x.na x.nb).1,[],(s.append x.na x.nb).2)
 else if x.c=2 then ((s.sync x.na).1,[],(s.sync x.na).2)
 else if x.c=3 then ((s.rename x.na x.nb).1,[],(s.rename x.na x.nb).2)
 else if x.c=4 then ((s.delete x.na).1,[],(s.delete x.na).2)
 else if x.c=5 then (s.dirsync.1,[],s.dirsync.2)
 else if x.c=6 then (s.setFuse x.n,[],0)
 else if x.c=7 then (s.crash x.cr,[],0)
 else if x.c=8 then (s.start,[],0)
 else if x.c=9 then (s,s.read x.na)
 else (s,[],0)
structure Dsk.Good (s:Dsk)(m:Nat):Prop where
 ok:s.Ok
 dir:s.Dir
 load:s.load≤m
section
variable {s t:Dsk}{m:Nat}
theorem Dsk.Good.more (h:s.Good m){m':Nat}(hm:m≤m'):s.Good m':=⟨h.ok,h.dir,Nat.le_trans h.load hm⟩
theorem Dsk.Good.names (h:s.Good m):s.names.length≤m:=by
 have h1:=doesAll_len s.chg s.last
 rw[←h.dir.now] at h1;have h2:=h.load;unfold Dsk.load at h2;omega
theorem Dsk.Good.chg (h:s.Good m):s.chg.length≤m:=by
 have h2:=h.load;unfold Dsk.load at h2;omega
theorem Dsk.load_burn (s:Dsk):s.burn.load=s.load:=by
 obtain⟨_,_,h3,h4,_,_⟩:=@Dsk.burn_same s;unfold Dsk.load;rw[h3,h4]
theorem Dsk.load_changed (s:Dsk)(c:Chg):(s.changed c).1.load≤s.load+1:=by
 have hb:=s.load_burn;unfold Dsk.changed;split
 ·show s.burn.load≤_;omega
 ·unfold Dsk.load at *
  simp only[List.length_append,List.length_singleton] at *
  omega
theorem Dsk.load_create (s:Dsk)(n:Nm):(s.create n).1.load≤s.load+1:=by
 unfold Dsk.create;split
 ·exact Nat.le_succ _
 ·split
  ·exact Nat.le_succ _
  ·split
   ·exact Dsk.load_changed { s with files:=s.files++[⟨[],0⟩] } _
   ·exact Nat.le_succ _
theorem Dsk.load_append (s:Dsk)(n:Nm)(x:List UInt8):(s.append n x).1.load≤s.load+1:=by
 have hb:=s.load_burn;unfold Dsk.append;split
 ·exact Nat.le_succ _
 ·split
  ·exact Nat.le_succ _
  ·split
   ·exact Nat.le_succ _
   ·split
    ·show s.burn.load≤_;omega
    ·show s.burn.load≤_;omega
theorem Dsk.load_sync (s:Dsk)(n:Nm):(s.sync n).1.load≤s.load+1:=by
 have hb:=s.load_burn;unfold Dsk.sync;split
 ·exact Nat.le_succ _
 ·split
  ·exact Nat.le_succ _
  ·split
   ·show s.burn.load≤_;omega
   ·show s.burn.load≤_;omega
theorem Dsk.load_delete (s:Dsk)(n:Nm):(s.delete n).1.load≤s.load+1:=by
 unfold Dsk.delete;split
 ·exact Nat.le_succ _
 ·split
  ·exact Nat.le_succ _
  ·exact Dsk.load_changed _ _
theorem Dsk.load_dirsync (hd:s.Dir):s.dirsync.1.load≤s.load+1:=by
 have hb:=s.load_burn;unfold Dsk.dirsync;split
 ·exact Nat.le_succ _
 ·split
  ·show s.burn.load≤_;omega
  ·have h1:=doesAll_len s.burn.chg s.burn.last
   rw[←hd.burn.now] at h1
   unfold Dsk.load at *
   simp only[List.length_nil] at *
   omega
theorem Dsk.load_crash (s:Dsk)(c:Cra):(s.crash c).load≤s.load+1:=by
 have h1:=doesAll_len (s.chg.take (min (max c.names 0) s.chg.length).toNat) s.last
 rw[List.length_take] at h1;unfold Dsk.crash
 unfold Dsk.load at *
 simp only[List.length_nil] at *
 omega
theorem Dsk.Good.new (r:Int):(Dsk.new r).Good 0:=⟨.new r,.new r,Nat.le_refl _⟩
theorem Dsk.Good.create (h:s.Good m)(n:Nm):(s.create n).1.Good (m+1):=⟨h.ok.create _,h.dir.create h.ok _,Nat.le_trans (s.load_create _) (Nat.succ_le_succ h.load)⟩
theorem Dsk.Good.append (h:s.Good m)(n:Nm)(x:List UInt8):(s.append n x).1.Good (m+1):=⟨h.ok.append _ _,h.dir.append _ _,Nat.le_trans (s.load_append _ _) (Nat.succ_le_succ h.load)⟩
theorem Dsk.Good.sync (h:s.Good m)(n:Nm):(s.sync n).1.Good (m+1):=⟨h.ok.sync _,h.dir.sync _,Nat.le_trans (s.load_sync _) (Nat.succ_le_succ h.load)⟩
theorem Dsk.Good.delete (h:s.Good m)(n:Nm):(s.delete n).1.Good (m+1):=⟨h.ok.delete _,h.dir.delete _,Nat.le_trans (s.load_delete _) (Nat.succ_le_succ h.load)⟩
theorem Dsk.Good.dirsync (h:s.Good m):s.dirsync.1.Good (m+1):=⟨h.ok.dirsync,h.dir.dirsync,Nat.le_trans (Dsk.load_dirsync h.dir) (Nat.succ_le_succ h.load)⟩
theorem Dsk.Good.crash (h:s.Good m)(c:Cra):(s.crash c).Good (m+1):=⟨h.ok.crash _,h.dir.crash _,Nat.le_trans (s.load_crash _) (Nat.succ_le_succ h.load)⟩
theorem Dsk.Good.start (h:s.Good m):s.start.Good m:=⟨h.ok.start,h.dir.start,h.load⟩
def Dsk.acts (s:Dsk):List AAct→Dsk
 | []=>s
 | x::l=>(s.act x).1.acts l
end
end Go.Proofs.YtlpojfgeocpkeaaGreatDoor
namespace Go.Proofs.YtlpojfgeocpkeaaGreatDoor
open Go.RowKit
set_option linter.unusedVariables false
set_option linter.unusedSimpArgs false
def Dw (B:Nat)(w:World)(d:Nat)(s:Dsk):Prop:=∃L,DskAt w (fun k=>B≤k∧k<w.heap.size) d L s
section
variable {B:Nat}{w w':World}{d:Nat}{s s':Dsk}
variable {m:Nat}(h:Dw B w d s)(g:s.Good m)(hm:m<1073741824)(n:ByteArray)(hn:n.size≤1073741824)
include h g hm hn
end
end Go.Proofs.YtlpojfgeocpkeaaGreatDoor
namespace Go.Proofs.YtlpojfgeocpkeaaGreatDoor
open Go.Lib
set_option linter.unusedVariables false
set_option linter.unusedSimpArgs false
def pad8 (u:Nat):List UInt8:=List.replicate (8-nDigits u) 48++decDigits u
def nameL (w:List UInt8)(u:Nat):List UInt8:=w++[46]++pad8 u
theorem c48 (k:Nat)(h:k<10):(UInt8.ofNat (48+k)).toNat=48+k:=by
 rw[UInt8.toNat_ofNat'];omega
theorem decDigits_big {u:Nat}(h:¬u<10):decDigits u=decDigits (u / 10)++[UInt8.ofNat (48+u % 10)]:=by
 rw[decDigits,dif_neg h]
theorem parse_dec (u:Nat)(hu:u<18446744073709551616):∀r,parseUint10 0 (decDigits u++r)=parseUint10 u r:=by
 induction u using Nat.strongRecOn with
 | _ u ih =>
  intro r
  by_cases h:u<10
  ·rw[decDigits_one h,List.singleton_append,parseUint10,c48 u h];rw[if_pos (by omega),if_neg (by omega),if_neg (by omega)]
   congr 1
   omega
  ·rw[decDigits_big h,List.append_assoc,ih (u / 10) (by omega) (by omega),List.singleton_append,parseUint10,c48 _ (Nat.mod_lt _ (by omega))];rw[if_pos (by omega),if_neg (by omega),if_neg (by omega)]
   congr 1
   omega
theorem parse_zeros (k:Nat)(r:List UInt8):parseUint10 0 (List.replicate k 48++r)=parseUint10 0 r:=by
 induction k with
 | zero=>rfl
 | succ k ih =>
  rw[List.replicate_succ,List.cons_append,parseUint10];have e:(48:UInt8).toNat=48:=rfl;rw[e,if_pos (by omega),if_neg (by omega),if_neg (by omega)];exact ih
theorem pad8_ne (u:Nat):pad8 u≠[]:=by
 have h:=decDigits_length u;have h2:=nDigits_pos u;unfold pad8;intro e;have e2:=congrArg List.length e;rw[List.length_append,h] at e2;simp at e2;omega
theorem parse_pad8 (u:Nat)(hu:u<18446744073709551616):parseUintB 64 (pad8 u)=.ok u:=by
 rw[parseUintB_64,parseMag,if_neg (pad8_ne u)];unfold pad8;have:=parse_dec u hu [];rw[List.append_nil] at this;rw[parse_zeros,this];rfl
theorem dgt_all (u:Nat):∀c∈decDigits u,48≤c.toNat∧c.toNat≤57:=by
 induction u using Nat.strongRecOn with
 | _ u ih =>
  intro c hc
  by_cases h:u<10
  ·rw[decDigits_one h] at hc;rw[List.mem_singleton.1 hc,c48 u h];omega
  ·rw[decDigits_big h] at hc;rcases List.mem_append.1 hc with h1 | h1
   ·exact ih (u / 10) (by omega) c h1
   ·rw[List.mem_singleton.1 h1,c48 _ (Nat.mod_lt _ (by omega))];omega
theorem pad8_all (u:Nat):∀c∈pad8 u,48≤c.toNat∧c.toNat≤57:=by
 intro c hc;unfold pad8 at hc;rcases List.mem_append.1 hc with h1 | h1
 ·rw[(List.mem_replicate.1 h1).2]
  decide
 ·exact dgt_all u c h1
theorem nDigits_le {u:Nat}(hu:u<18446744073709551616):nDigits u≤20:=by
 rcases Nat.eq_zero_or_pos u with h | h
 ·rw[nDigits_small (by omega)];omega
 ·have:=numDigits_eq u h hu
  split at this<;>omega
theorem pad8_len (u:Nat):(pad8 u).length=max 8 (nDigits u):=by
 unfold pad8;rw[List.length_append,decDigits_length,List.length_replicate];omega
theorem nameL_len (w:List UInt8)(u:Nat):(nameL w u).length=w.length+1+max 8 (nDigits u):=by
 unfold nameL;rw[List.length_append,List.length_append,pad8_len];rfl
def numP (w n:List UInt8):Option Nat:=match parseUintB 64 (trimPrefix n (w++[46])) with
 | .ok u=>if nameL w u=n then some u else none
 | _=>none
theorem numP_name (w:List UInt8)(u:Nat)(hu:u<18446744073709551616):numP w (nameL w u)=some u:=by
 unfold numP trimPrefix hasPrefix
 have e:(w++[46]).isPrefixOf (nameL w u)=true:=by
  unfold nameL;rw[List.isPrefixOf_iff_prefix];exact List.prefix_append _ _
 rw[e,if_pos rfl]
 have e2:(nameL w u).drop (w++[46]).length=pad8 u:=by
  unfold nameL;rw[List.drop_left]
 rw[e2,parse_pad8 u hu];simp
end Go.Proofs.YtlpojfgeocpkeaaGreatDoor
