/- JobRoom: the plain law. Package job, plain: what each operation on a job's files keeps, a step keeps; which names there are. JobFuse, JobLasts: a disk with a file of another one's, synced; a job beside it, the power going or not. Plain. A job goes on till it ends; a job whose disk's fuse is set, and whose power comes back. JobLasts: plain. What a job's tables open as; what is there behind a crash. -/
import Derived.Test.YtlpojfgeocpkeaaGreatDoorX40
import Derived.Test.YtlpojfgeocpkeaaGreatDoorX30
import Derived.Test.YtlpojfgeocpkeaaGreatDoorX29
namespace Go.Proofs.YtlpojfgeocpkeaaGreatDoor
open Go.RowKit Go.Sort
set_option linter.unusedVariables false
set_option linter.unusedSimpArgs false
def otherW:L:=[111,116,104,101,114]
def textW:L:=[116,101,120,116]
theorem nameT_head (n:Nat):∃r,nameT n=116::r:=⟨_,rfl⟩
theorem nameT_other (n:Nat):nameT n≠otherW:=by
 obtain⟨r,e⟩:=nameT_head n;rw[e];unfold otherW;intro h;injection h with h _;exact absurd h (by decide)
section
variable {R n:Nat}{lv:Int}{ls:List (List Ent)}{base:L→Option Fil}{BN:List L}{s:Dsk}{J:JW}
end
theorem LsAt.more {w:World}{N:Nat}{A:Option Addr}{ls:List EL}(h:LsAt w N A ls){N':Nat}(hN:N≤N'):LsAt w N' A ls:=⟨h.row.more hN,fun x hx=>⟨(h.each x hx).1.more hN,(h.each x hx).2⟩⟩
theorem JK.lsok {K:Nat→Prop}{w:World}{vl:Value}{os:List EL}(h:JK K w vl os):LsOk (os.map (·.l)):=⟨fun l hl=>by
 obtain⟨x,hx,rfl⟩:=List.mem_map.1 hl
 exact h.ok x hx,by rw[List.length_map];exact h.few⟩
theorem right_ok {ls os:List EL}(h:os.map (·.l)=ls.map (fun x=>rightE x.l))(hl:∀x∈ls,x.l.length≤60):(∀x∈os,0<x.l.length→OkL x.l)∧(∀x∈os,x.l.length≤60)∧os.length=ls.length∧∀x∈os,∀e∈x.l,e.seq<18446744073709551616:=by
 have h0:∀x∈os,∃y∈ls,x.l=rightE y.l:=fun x hx=>by
  have hm:x.l∈os.map (·.l):=List.mem_map.2 ⟨x,hx,rfl⟩;rw[h] at hm;obtain⟨y,hy,e⟩:=List.mem_map.1 hm;exact⟨y,hy,e.symm⟩
 have h1:∀x∈os,x.l.length≤60:=fun x hx=>by
  obtain⟨y,hy,e⟩:=h0 x hx;have:=rightE_len y.l;have:=hl y hy;rw[e];omega
 refine⟨fun x hx hp=>?_,h1,by have:=congrArg List.length h;rwa [List.length_map,List.length_map] at this,fun x hx e he=>?_⟩
 ·obtain⟨y,hy,e⟩:=h0 x hx;have h2:=h1 x hx;rw[e] at hp h2 ⊢;exact⟨rightE_strict y.l,fun e he=>(rightE_mem he).2,h2,hp⟩
 ·obtain⟨y,hy,e2⟩:=h0 x hx;rw[e2] at he;have:=(fits_parts (rightE_mem he).2).2.2.2.2.2;omega
end Go.Proofs.YtlpojfgeocpkeaaGreatDoor
namespace Go.Proofs.YtlpojfgeocpkeaaGreatDoor
open Go.RowKit Go.Lib
set_option linter.unusedVariables false
set_option linter.unusedSimpArgs false
structure Pres (Q:Dsk→Prop)(A:L→Prop):Prop where
 create:∀s n,A n→Q s→Q (s.create n).1
 append:∀s n x,A n→Q s→Q (s.append n x).1
 sync:∀s n,A n→Q s→Q (s.sync n).1
 delete:∀s n,A n→Q s→Q (s.delete n).1
 dirsync:∀s,Q s→Q s.dirsync.1
section
variable {Q:Dsk→Prop}{A:L→Prop}{n:Nat}{lv:Int}{ls:List (List Ent)}{J:JW}{s:Dsk}
theorem laidE_pres (h:Pres Q A){nm x:L}(ha:A nm)(hs:Q s):Q (laidE s nm x).1:=by
 unfold laidE;split
 ·exact hs
 ·exact h.append _ _ _ ha hs
theorem finD_pres (h:Pres Q A){nm x:L}(ha:A nm)(hs:Q s):Q (finD s nm x).1:=by
 unfold finD;split
 ·exact h.sync _ _ ha (laidE_pres h ha hs)
 ·exact laidE_pres h ha hs
theorem openD_pres (h:Pres Q A)(ha:A (nameT (n+J.li)))(hs:Q s):Q (openD n J s).1:=by
 unfold openD;split
 ·exact h.create _ _ ha hs
 ·exact hs
theorem writeE_pres (h:Pres Q A){l:List Ent}(ha:A (nameT (n+J.li)))(hs:Q s):Q (writeE n lv l J s).2.1:=by
 have h1:=openD_pres (n:=n) (J:=J) h ha hs;have h2:=laidE_pres h (x:=((runX (n+J.li) lv (l.take J.en)).1.add (l.getD J.en ent0)).2) ha h1;have h3:=finD_pres h (x:=(runX (n+J.li) lv l).1.outL) ha h2;unfold writeE;split
 ·split
  ·split
   ·exact h2
   ·split
    ·exact h3
    ·exact h3
  ·exact h2
 ·exact h1
theorem writeE_fs {l:List Ent}(ha:A (nameT (n+J.li)))(hf:∀f∈J.fs,A f):∀f∈(writeE n lv l J s).1.fs,A f:=by
 have ho:∀f∈openF n J,A f:=by
  unfold openF;split
  ·intro f h;rcases List.mem_append.1 h with h | h
   ·exact hf f h
   ·rw[List.mem_singleton.1 h];exact ha
  ·exact hf
 unfold writeE;split
 ·split
  ·split
   ·exact ho
   ·split
    ·exact ho
    ·exact ho
  ·exact ho
 ·exact hf
theorem writeE_li {l:List Ent}(hl:J.li<ls.length):(writeE n lv l J s).1.li≤ls.length:=by
 unfold writeE;split
 ·split
  ·split
   ·exact Nat.le_of_lt hl
   ·split
    ·exact hl
    ·exact Nat.le_of_lt hl
  ·exact Nat.le_of_lt hl
 ·exact Nat.le_of_lt hl
theorem stepsE_pres (h:Pres Q A)(ha:∀i,i<ls.length→A (nameT (n+i))):∀(k:Nat) {J:JW} {s:Dsk},J.li≤ls.length→Q s→(∀f∈J.fs,A f)→Q (stepsE n lv ls k J s).2.1∧∀f∈(stepsE n lv ls k J s).1.fs,A f
 | 0,J,s,hl,hs,hf=>⟨hs,hf⟩
 | k+1,J,s,hl,hs,hf=>by
  unfold stepsE;split
  ·exact⟨hs,hf⟩
  ·rename_i hne
   have hl':J.li<ls.length:=by omega
   have h1:=writeE_pres (n:=n) (lv:=lv) (l:=ls.getD J.li []) h (ha _ hl') hs;have h2:=writeE_fs (n:=n) (lv:=lv) (l:=ls.getD J.li []) (s:=s) (ha _ hl') hf;split
   ·exact stepsE_pres h ha k (writeE_li hl') h1 h2
   ·exact⟨h1,h2⟩
theorem delsE_pres (h:Pres Q A):∀(fs:List L) {s:Dsk},Q s→(∀f∈fs,A f)→Q (delsE fs s).1
 | [],s,hs,hf=>hs
 | a::fs,s,hs,hf=>by
  have h1:=h.delete s a (hf a (List.mem_cons_self ..)) hs;unfold delsE;split
  ·exact h1
  ·exact delsE_pres h fs h1 (fun f q=>hf f (List.mem_cons_of_mem _ q))
theorem giveR_pres (h:Pres Q A){why:Nat}(hs:Q s)(hf:∀f∈J.fs,A f):Q (giveR J s why).s∧∀f∈(giveR J s why).J.fs,A f:=by
 unfold giveR;split
 ·exact⟨hs,hf⟩
 ·split
  ·exact⟨delsE_pres h _ hs hf,hf⟩
  ·exact⟨delsE_pres h _ hs hf,fun f q=>by cases q⟩
theorem stepR_pres (h:Pres Q A)(ha:∀i,i<ls.length→A (nameT (n+i)))(hl:J.li≤ls.length)(hs:Q s)(hf:∀f∈J.fs,A f):Q (stepR n lv ls J s).s∧∀f∈(stepR n lv ls J s).J.fs,A f:=by
 obtain⟨h1,h2⟩:=stepsE_pres (n:=n) (lv:=lv) h ha 8 hl hs hf;unfold stepR endR;split
 ·split
  ·exact⟨h1,h2⟩
  ·split
   ·split
    ·exact⟨h.dirsync _ h1,h2⟩
    ·exact giveR_pres h (h.dirsync _ h1) h2
   ·exact⟨h1,h2⟩
 ·exact giveR_pres h h1 h2
end
structure NamesIn (A:L→Prop)(s:Dsk):Prop where
 names:∀p∈s.names,A p.1
 last:∀p∈s.last,A p.1
 chg:∀c∈s.chg,c.toN≠[]→A c.toN
section
variable {A:L→Prop}{s:Dsk}
theorem in_does {m:NM}{c:Chg}(hm:∀p∈m,A p.1)(hc:c.toN≠[]→A c.toN):∀p∈doesC m c,A p.1:=fun p hp=>by
 rcases doesC_mem hp with h | ⟨h,rfl⟩
 ·exact hm p h
 ·exact hc h
theorem NamesIn.of_eq (h:NamesIn A s){t:Dsk}(h1:t.names=s.names)(h2:t.last=s.last)(h3:t.chg=s.chg):NamesIn A t:=⟨by rw[h1];exact h.names,by rw[h2];exact h.last,by rw[h3];exact h.chg⟩
theorem NamesIn.burn (h:NamesIn A s):NamesIn A s.burn:=h.of_eq Dsk.burn_same.2.1 Dsk.burn_same.2.2.1 Dsk.burn_same.2.2.2.1
theorem NamesIn.changed (h:NamesIn A s){c:Chg}(hc:c.toN≠[]→A c.toN):NamesIn A (s.changed c).1:=by
 have hb:=h.burn;unfold Dsk.changed;split
 ·exact hb
 ·refine⟨in_does hb.names hc,hb.last,fun x hx=>?_⟩;rcases List.mem_append.1 hx with q | q
  ·exact hb.chg x q
  ·rw[List.mem_singleton.1 q];exact hc
theorem NamesIn.create (h:NamesIn A s){n:L}(hn:A n):NamesIn A (s.create n).1:=by
 unfold Dsk.create;split
 ·exact h
 ·split
  ·exact h
  ·split
   ·exact NamesIn.changed (s:={ s with files:=s.files++[⟨[],0⟩] }) ⟨h.names,h.last,h.chg⟩ (fun _=>hn)
   ·exact h
theorem NamesIn.append (h:NamesIn A s)(n x:L):NamesIn A (s.append n x).1:=by
 unfold Dsk.append;split
 ·exact h
 ·split
  ·exact h
  ·split
   ·exact h
   ·split
    ·exact h.burn
    ·exact h.burn.of_eq rfl rfl rfl
theorem NamesIn.sync (h:NamesIn A s)(n:L):NamesIn A (s.sync n).1:=by
 unfold Dsk.sync;split
 ·exact h
 ·split
  ·exact h
  ·split
   ·exact h.burn
   ·exact h.burn.of_eq rfl rfl rfl
theorem NamesIn.dirsync (h:NamesIn A s):NamesIn A s.dirsync.1:=by
 unfold Dsk.dirsync;split
 ·exact h
 ·split
  ·exact h.burn
  ·exact⟨h.burn.names,h.burn.names,fun c hc=>by cases hc⟩
theorem NamesIn.new (r:Int):NamesIn A (Dsk.new r):=⟨fun p h=>(by cases h),fun p h=>(by cases h),fun p h=>(by cases h)⟩
theorem held_pres {n:Nm}{f:Nat}{d:List UInt8}(hn:n≠[]):Pres (fun s=>Held s n f d) (fun m=>m≠n) :=
 ⟨fun s m hm h=>h.create hn hm,fun s m x hm h=>h.append hm x,fun s m hm h=>h.sync hm,fun s m hm h=>h.delete hn hm,fun s h=>h.dirsync⟩
theorem Pres.less {Q:Dsk→Prop}{A B:L→Prop}(h:Pres Q A)(hB:∀n,B n→A n):Pres Q B :=
 ⟨fun s n hn=>h.create s n (hB n hn),fun s n x hn=>h.append s n x (hB n hn),fun s n hn=>h.sync s n (hB n hn),fun s n hn=>h.delete s n (hB n hn),h.dirsync⟩
end
end Go.Proofs.YtlpojfgeocpkeaaGreatDoor
namespace Go.Proofs.YtlpojfgeocpkeaaGreatDoor
open Go.RowKit Go.Sort
set_option linter.unusedVariables false
set_option linter.unusedSimpArgs false
def ownD1 (nm:L):Dsk × Nat:=(Dsk.new 1048576).create nm
def ownD2 (nm:L):Dsk × Nat:=(ownD1 nm).1.append nm textW
def ownD3 (nm:L):Dsk × Nat:=(ownD2 nm).1.sync nm
def ownD4 (nm:L):Dsk × Nat:=(ownD3 nm).1.dirsync
def baseN (nm:L):L→Option Fil:=Dsk.updF (fun _=>none) nm (some ⟨textW,4⟩)
theorem own_begin {nm:L}(hr:rightB nm=true):(ownD1 nm).2=0∧(ownD2 nm).2=0∧(ownD3 nm).2=0∧(ownD4 nm).2=0∧Calm 1048576 0 (ownD4 nm).1∧(∀k,(ownD4 nm).1.fil k=baseN nm k)∧(∃i,Held (ownD4 nm).1 nm i textW)∧NamesIn (fun k=>k=nm) (ownD4 nm).1:=by
 have hc:Calm 1048576 0 (Dsk.new 1048576):=calm_new 1048576;have n0:NamesIn (fun k=>k=nm) (Dsk.new 1048576):=.new _;have n1:=n0.create (n:=nm) rfl;have n2:=n1.append nm textW;have n3:=n2.sync nm;have n4:=n3.dirsync;have d1:=Dsk.create_did hc.ok hc.off (n:=nm) rfl hr;have c1:=hc.did d1 (hc.uq.create _) (hc.ok.create _) (hc.dir.create hc.ok _);rw[show (Dsk.new 1048576).create nm=ownD1 nm from rfl] at c1 n1 n2 n3 n4;rw[show (ownD1 nm).1.append nm textW=ownD2 nm from rfl] at n2 n3 n4;rw[show (ownD2 nm).1.sync nm=ownD3 nm from rfl] at n3 n4;rw[show (ownD3 nm).1.dirsync=ownD4 nm from rfl] at n4;rcases c1 with⟨_,_,e⟩ | ⟨e1,c1,f1⟩
 ·exact absurd e (by decide)
 have g1:(ownD1 nm).1.fil nm=some ⟨[],0⟩:=by rw[f1];exact updF_self _ _ _
 have hu:(ownD1 nm).1.used≤0:=by
  refine Dsk.used_le c1.uq c1.ok [nm] (fun _=>0) (fun k f e=>?_);rw[f1] at e;unfold Dsk.updF at e
  by_cases hk:k=nm
  ·rw[if_pos hk] at e;injection e with e;exact⟨by rw[hk];exact List.mem_singleton.2 rfl,by rw[←e];exact Nat.le_refl _⟩
  ·rw[if_neg hk] at e;cases e
 rcases Dsk.append_did c1.ok c1.dir c1.off g1 textW with⟨q,_⟩ | ⟨_,d2⟩
 ·rw[c1.room] at q;have:textW.length=4:=rfl;omega
 have c2:=c1.did d2 (c1.uq.append _ _) (c1.ok.append _ _) (c1.dir.append _ _);rw[show (ownD1 nm).1.append nm textW=ownD2 nm from rfl] at c2;rcases c2 with⟨_,_,e⟩ | ⟨e2,c2,f2⟩
 ·exact absurd e (by decide)
 have g2:(ownD2 nm).1.fil nm=some ⟨textW,0⟩:=by rw[f2];exact updF_self _ _ _
 have d3:=Dsk.sync_did c2.ok c2.dir c2.off g2;have c3:=c2.did d3 (c2.uq.sync _) (c2.ok.sync _) (c2.dir.sync _);rw[show (ownD2 nm).1.sync nm=ownD3 nm from rfl] at c3;rcases c3 with⟨_,_,e⟩ | ⟨e3,c3,f3⟩
 ·exact absurd e (by decide)
 have f3':∀k,(ownD3 nm).1.fil k=baseN nm k:=fun k=>by
  rw[f3,updF_congr f2,updF_updF,updF_congr f1,updF_updF];rfl
 obtain⟨d4,l4⟩:=Dsk.dirsync_did c3.off;have c4:=c3.did d4 c3.uq.dirsync c3.ok.dirsync c3.dir.dirsync;rw[show (ownD3 nm).1.dirsync=ownD4 nm from rfl] at c4 l4;rcases c4 with⟨_,_,e⟩ | ⟨e4,c4,f4⟩
 ·exact absurd e (by decide)
 have f4':∀k,(ownD4 nm).1.fil k=baseN nm k:=fun k=>by rw[f4,f3']
 obtain⟨l1,l2⟩:=l4 e4;exact⟨e1,e2,e3,e4,c4,f4',Dsk.held_of c4.dir l1 l2 (by rw[f4'];exact updF_self _ _ _),n4⟩
theorem own_good (nm:L):(ownD1 nm).1.Good 1∧(ownD2 nm).1.Good 2∧(ownD3 nm).1.Good 3∧(ownD4 nm).1.Good 4:=by
 have g1:=(Dsk.Good.new 1048576).create nm;have g2:=g1.append nm textW;have g3:=g2.sync nm;exact⟨g1,g2,g3,g3.dirsync⟩
theorem baseN_ok {nm:L}{n:Nat}(hn:n≤4294967296)(h:∀i,i<6→nameT (n+i)≠nm):BaseOk n (baseN nm) [nm]:=by
 refine⟨fun i hi=>?_,fun q f h=>?_,Nat.le_refl _,hn⟩
 ·unfold baseN Dsk.updF;rw[if_neg (h i hi)]
 ·unfold baseN Dsk.updF at h
  by_cases e:q=nm
  ·rw[if_pos e] at h;injection h with h;exact⟨by rw[e];exact List.mem_singleton.2 rfl,by rw[←h];decide⟩
  ·rw[if_neg e] at h;cases h
section
variable {F0 n:Nat}{lv:Int}{ls:List (List Ent)}{base:L→Option Fil}{BN:List L}{s:Dsk}{J:JW}{Q:Dsk→Prop}{A:L→Prop}
def FuI (F0 n:Nat)(lv:Int)(ls:List (List Ent))(base:L→Option Fil)(A:L→Prop)(Q:Dsk→Prop)(i:Nat)(r:SR):Prop :=
 ((r.e=0∧r.dead=false∧r.over=false∧JOk ls r.J∧JDisk 1048576 F0 n lv ls base r.J r.s∧posE ls r.J=min (8*i) (totE ls)∧(r.done=true→r.J.li=ls.length∧(0<ls.length→r.s.last=r.s.names∧r.s.chg=[]))∧(0<i→r.J.li=ls.length→r.done=true))∨StDown F0 r)∧Q r.s∧∀f∈r.J.fs,A f
theorem FuI.start (hls:LsOk ls)(h:Calm 1048576 F0 s)(hf:∀k,s.fil k=base k)(hq:Q s):FuI F0 n lv ls base A Q 0 ⟨⟨0,0,[],[]⟩,s,false,0,false,false,false⟩ :=
 ⟨.inl ⟨rfl,rfl,rfl,JOk.zero hls,.zero h hf,by show posE ls _=_;unfold posE;simp,(fun e=>(by cases e)),(fun e=>absurd e (by decide))⟩,hq,fun f h=>by cases h⟩
theorem FuI.next {i:Nat}{r:SR}(hls:LsOk ls)(hb:BaseOk n base BN)(hP:Pres Q A)(hA:∀i,i<ls.length→A (nameT (n+i)))(h:FuI F0 n lv ls base A Q i r)(he:r.e=0):FuI F0 n lv ls base A Q (i+1) (stepR n lv ls r.J r.s)∧(stepR n lv ls r.J r.s).ret=(stepR n lv ls r.J r.s).done:=by
 obtain⟨h,hq,hf⟩:=h;rcases h with⟨h1,h0,h2,h3,h4,h5,h6,h7⟩ | h
 ·have hp:=stepR_pres (lv:=lv) (J:=r.J) (s:=r.s) hP hA h3.li hq hf;rcases stepR_law hls hb h3 h4 with q | q | q
  ·exact⟨⟨.inl ⟨q.e,q.dead,q.over,q.ok,q.disk,by rw[q.pos,h5];omega,fun e=>⟨q.done.1 e,q.last e⟩,fun _=>q.done.2⟩,hp⟩,q.ret⟩
  ·exact⟨⟨.inr q,hp⟩,by rw[q.ret,q.done]⟩
  ·exact absurd q.room (by decide)
 ·have:=h.e;omega
theorem FuI.ends {i:Nat}{r:SR}(hls:LsOk ls)(h:FuI F0 n lv ls base A Q i r)(he:r.e=0)(hd:r.done=false):i≤45:=by
 obtain⟨h,hq,hf⟩:=h;rcases h with⟨h1,h0,h2,h3,h4,h5,h6,h7⟩ | h
 ·have ht:=totE_le hls;obtain⟨p1,p2,p3⟩:=posE_le h3;have hl:=h3.li
  by_cases hi:i=0
  ·omega
  ·have:r.J.li<ls.length:=by
    rcases Nat.lt_or_ge r.J.li ls.length with a | a
    ·exact a
    ·have:=h7 (by omega) (by omega);rw[hd] at this;cases this
   have:=p2 this;omega
 ·have:=h.e;omega
theorem FuI.on {i:Nat}{r:SR}(h:FuI F0 n lv ls base A Q i r)(he:r.e=0):r.dead=false∧r.over=false∧JOk ls r.J∧r.s.off=false:=by
 rcases h.1 with⟨h1,h0,h2,h3,h4,h5,h6,h7⟩ | h
 ·exact⟨h0,h2,h3,h4.calm.off⟩
 ·have:=h.e;omega
theorem FuI.e_ {i:Nat}{r:SR}(h:FuI F0 n lv ls base A Q i r)(he:r.e≠0):r.e=7∧r.dead=true∧r.over=false∧r.done=false∧r.s.off=true∧0<F0:=by
 rcases h.1 with⟨h1,_⟩ | h
 ·exact absurd h1 he
 ·exact⟨h.e,h.dead,h.over,h.done,h.off,h.pos⟩
end
theorem Pres.and {Q R:Dsk→Prop}{A:L→Prop}(h:Pres Q A)(k:Pres R A):Pres (fun s=>Q s∧R s) A :=
 ⟨fun s n a q=>⟨h.create s n a q.1,k.create s n a q.2⟩,fun s n x a q=>⟨h.append s n x a q.1,k.append s n x a q.2⟩,fun s n a q=>⟨h.sync s n a q.1,k.sync s n a q.2⟩,fun s n a q=>⟨h.delete s n a q.1,k.delete s n a q.2⟩,fun s q=>⟨h.dirsync s q.1,k.dirsync s q.2⟩⟩
def JobN (N:Nat)(m:L):Prop:=∃j,j<N∧m=nameT (5+j)
section
variable {K:Nat→Prop}{w:World}{g d:Nat}{s:Dsk}{n:Nat}{lv:Int}{vl:Value}{os:List EL}{J:JW}{done over dead:Bool}{ok:Prop}
end
section
variable {K:Nat→Prop}{w:World}{g d:Nat}{s:Dsk}{n:Nat}{lv:Int}{vl:Value}{os:List EL}{J:JW}{done over dead:Bool}{ok:Prop}
end
def FuE (F0 n:Nat)(lv:Int)(ls:List (List Ent))(base:L→Option Fil)(A:L→Prop)(Q:Dsk→Prop)(r:SR):Prop:=∃i,FuI F0 n lv ls base A Q i r∧(r.e=0→r.done=true)
set_option maxRecDepth 100000 in
set_option maxHeartbeats 4000000 in
theorem jends_any {K:Nat→Prop}{w:World}{g d:Nat}{s:Dsk}{n:Nat}{lv:Int}{vl:Value}{os:List EL}{ls:List (List Ent)}{m F0:Nat}{base:L→Option Fil}{BN:List L}{A:L→Prop}{Q:Dsk→Prop}
  (h:JRun K w g d s n lv vl os ⟨0,0,[],[]⟩ false false false True) (hk:JK K w vl os) (hls:os.map (·.l)=ls) (hLs:LsOk ls) (hb:BaseOk n base BN) (gd:s.Good m) (hm:m≤100) (hn:n≤4294967296)
  (hI:FuI F0 n lv ls base A Q 0 ⟨⟨0,0,[],[]⟩,s,false,0,false,false,false⟩) (hP:Pres Q A) (hA:∀i,i<ls.length→A (nameT (n+i))) :
  Calls Tryz.prog 31 #[.pointer (some ⟨g,0,none⟩)] w fun e w'=>∃r:SR,e=.returned (.tuple #[.int .i64 (r.e:Nat),.bool true])∧Keeps K w w'∧JRun K w' g d r.s n lv vl os r.J r.done r.over r.dead (r.e=0)∧r.s.Good 2000∧FuE F0 n lv ls base A Q r:=by
 replace h:=Lib.hid h;replace hk:=Lib.hid hk;replace hls:=Lib.hid hls;replace hLs:=Lib.hid hLs;replace hb:=Lib.hid hb;replace gd:=Lib.hid gd;replace hI:=Lib.hid hI;replace hP:=Lib.hid hP;replace hA:=Lib.hid hA
 go_enter Tryz.func31,Tryz.ntmps31
 go_wp2_with fail
 go_loopw [4,5,6] (fun iv dv ev wr=>∃(i:Nat) (r:SR),i≤46∧r.e=0∧r.done=false∧iv=.int .i64 (i:Nat)∧JRun K wr g d r.s n lv vl os r.J false false false True∧r.s.Good (100+40*i)∧Keeps K w wr∧FuI F0 n lv ls base A Q i r) (fun iv _ _ _=>60-(intOf iv).toNat)
 case atStart=>exact⟨0,⟨⟨0,0,[],[]⟩,s,false,0,false,false,false⟩,by decide,rfl,rfl,rfl,h.out,gd.out.more (by omega),.refl _ _,hI.out⟩
 case round =>
  obtain⟨i,r,hi,he,hd,rfl,hJr,hgr,hkr,hIr⟩:=hrel;have hi45:=hIr.ends hLs.out he hd
  have h60:(i:Int)<60:=by omega
  obtain⟨hdd,hov,hJok,hoff⟩:=hIr.on he;have hst:=Step_on hJr (hk.out.keeps hkr) hls.out hJok hLs.out hoff hgr (by omega) hn;have hgn:=stepR_good (n:=n) (lv:=lv) hLs.out (by have:=hLs.out.few;omega) hJok hgr;obtain⟨hIn,hrt⟩:=hIr.next hLs.out hb.out hP.out hA.out he;obtain⟨r2,hr2⟩:∃x,stepR n lv ls r.J r.s=x:=⟨_,rfl⟩;rw[hr2] at hst hgn hIn hrt;rw[hrt] at hst;replace hst:=Lib.hid hst;replace hgn:=Lib.hid hgn;replace hIn:=Lib.hid hIn;replace hrt:=Lib.hid hrt;replace hr2:=Lib.hid hr2;replace hIr:=Lib.hid hIr;replace hJr:=Lib.hid hJr;replace hgr:=Lib.hid hgr;replace hkr:=Lib.hid hkr;replace hJok:=Lib.hid hJok;replace hdd:=Lib.hid hdd;replace hov:=Lib.hid hov;replace hoff:=Lib.hid hoff;replace he:=Lib.hid he;replace hd:=Lib.hid hd;go_wp2_with fail
  refine hst.out.mono ?_;clear hst;rintro e w8 ⟨rfl,hk8,hJ8⟩;have hkr8:=hkr.out.trans hk8 (fun _=>id)
  by_cases h0:r2.e=0
  ·obtain⟨q1,q2,q3,q4⟩:=hIn.out.on h0;have hJ9:=hJ8.weak (ok':=True) (fun _=>⟨q2,q1⟩)
   have h00:(((r2.e:Nat):Int) != 0)=false:=by rw[h0];rfl
   cases hdn:r2.done with
   | true =>
    have hfin:FuE F0 n lv ls base A Q r2:=⟨i+1,hIn.out,fun _=>hdn⟩;have hJ10:=hJ8.weak (ok':=r2.e=0) (fun _=>⟨q2,q1⟩);replace hfin:=Lib.hid hfin;replace hJ10:=Lib.hid hJ10;replace hkr8:=Lib.hid hkr8;replace h0:=Lib.hid h0;clear hJ9 hJ8 hk8
    try simp only[hdn]
    replace hdn:=Lib.hid hdn;go_wp2_with fail
    go_ret2
    exact⟨r2,rfl,hkr8.out,hJ10.out,hgn.out.more (by omega),hfin.out⟩
   | false =>
    rw[hdn,q1,q2] at hJ9;replace hJ9:=Lib.hid hJ9;replace hkr8:=Lib.hid hkr8;replace h0:=Lib.hid h0;clear hJ8 hk8
    try simp only[hdn]
    replace hdn:=Lib.hid hdn;go_wp2_with fail
    exact⟨⟨i+1,r2,by omega,h0.out,hdn.out,by go_num,hJ9.out,hgn.out.more (by omega),hkr8.out,hIn.out⟩,by simp[intOf];omega⟩
  ·obtain⟨q0,q1,q2,q3,q4,q5⟩:=hIn.out.e_ h0;have hfin:FuE F0 n lv ls base A Q r2:=⟨i+1,hIn.out,fun e=>absurd e h0⟩;have hJ10:=hJ8.weak (ok':=r2.e=0) (fun e=>absurd e h0)
   have h00:(((r2.e:Nat):Int) != 0)=true:=by rw[q0];rfl
   replace hfin:=Lib.hid hfin;replace hJ10:=Lib.hid hJ10;replace hkr8:=Lib.hid hkr8;replace h0:=Lib.hid h0;replace q0:=Lib.hid q0;clear hJ8 hk8
   try simp only[q3]
   replace q3:=Lib.hid q3;go_wp2_with fail
   go_ret2
   exact⟨r2,rfl,hkr8.out,hJ10.out,hgn.out.more (by omega),hfin.out⟩
theorem all_inJ (own:List Ent):own.filter (inP [] [])=own:=by
 rw[List.filter_eq_self];intro e _;unfold inP keepP
 cases e.key<;>rfl
theorem RunI.file_cost2 {n:Nat}{lv:Int}{own:List Ent}{s:TB}{out:L}{bls:List (List (L × L))}{cur:List (L × L)}(h:RunI n lv own s out bls cur)(hn:own.length≤60):(out++s.outL).length≤2*entSz own+20000:=by
 by_cases hne:own=[]
 ·rw[h.outL_nil hne,List.append_nil,h.out_];have h1:=h.blen;rw[hne] at h1;have h2:bls=[]:=List.eq_nil_of_length_eq_zero (by simp at h1;simp[h1]);rw[h2];simp[outs]
 ·rw[h.outL_eq hne];obtain⟨bl',h2⟩:=h.fin_;have hb:=h2.tbd (Nat.le_refl _);have h3:=BB.outX_le s.fin.index;have h4:=h2.ib;have hx:=h2.index;have h5:=hb.is_;have h6:=hb.kl;have h7:=h2.blen;have h8:=outs_cost bl';rw[←h2.out_] at h8
  have h9:bl'.flatten=own.map rowE:=by have:=h2.rows;rwa [List.append_nil] at this
  rw[h9] at h8;have h10:=cost_rows own;rw[←hx] at h4
  have h11:s.fin.tail.length≤s.fin.index.outX.length+200:=by
   unfold TB.tail TB.tail0;simp only[List.length_append,filterL_len,bigL_len];unfold filterN;have e1:=bigX_le s.fin.at_;have e2:=bigX_le (s.fin.at_+(max (10*s.fin.keys.length) 64+7) / 8);have e3:=bigX_le s.fin.t.count;omega
  rw[←List.append_assoc,List.length_append];simp only[List.length_nil] at h7;omega
theorem table_back {n:Nat}{lv:Int}{l:List Ent}(h:OkL l):∃f ix bls,openT (fileT n lv l)=some (f,ix,bls)∧rangeP ix bls [] []=l∧bls.length=ix.length∧(fileT n lv l).length≤98304:=by
 have hX:=runX_I n lv l
 have hT:(runX n lv l).2.2=l:=by
  have:=runX_take (n:=n) (lv:=lv) h.inc h.fit l.length (Nat.le_refl _)
  rwa [List.take_length] at this
 obtain⟨bl,cu,hI,_⟩:=hX.ex;have hR:=hX.run;rw[hT] at hI hR
 have hne:l≠[]:=by
  intro e;have:=h.pos;rw[e] at this;simp at this
 have hln:=h.len;obtain⟨bls,h1,h2⟩:=openT_run hI hR hne (by omega);refine⟨_,_,bls,h1,?_,(ixOf_len bls 0).symm,?_⟩
 ·rw[range_run h2,all_inJ]
 ·have h3:=hI.file_cost2 (by omega);have h4:=entSz_le l h.fit;unfold fileT;omega
section
variable {n:Nat}{lv:Int}{ls:List (List Ent)}{base:L→Option Fil}{BN:List L}{s:Dsk}{J:JW}
theorem doneF_at (hn:n+ls.length<18446744073709551616):∀i,i≤ls.length→∀j,j<i→doneF n lv ls base i (nameT (n+j))=some (wholeF (fileT (n+j) lv (ls.getD j [])))
 | 0,_,j,hj=>absurd hj (by omega)
 | i+1,hi,j,hj=>by
  unfold doneF Dsk.updF
  by_cases e:j=i
  ·rw[e,if_pos rfl]
  ·rw[if_neg (fun q=>e (by have:=nameT_inj (by omega) (by omega) q;omega))]
   exact doneF_at hn i (by omega) j (by omega)
theorem tabsT_at {k j:Nat}(hj:j<k):(tabsT n lv ls k)[j]? = some (finJ (runX (n+j) lv (ls.getD j []))):=by
 unfold tabsT;rw[List.getElem?_map,List.getElem?_range hj];rfl
theorem tabsT_len (k:Nat):(tabsT n lv ls k).length=k:=by unfold tabsT;simp
theorem add_n (t:TB)(e:Ent):(t.add e).1.t.n=t.t.n:=by
 unfold TB.add;split
 ·try simp only
  split<;>rfl
 ·rfl
theorem run_n:∀(es:List Ent) (n:Nat) (lv:Int),(runX n lv es).1.t.n=n:=by
 intro es n lv
 induction es using snocRec with
 | nil=>rfl
 | snoc es e ih =>
  have h:(stepX (runX n lv es) e).1.t.n=((runX n lv es).1.add e).1.t.n:=by
   unfold stepX
   split<;>rfl
  rw[runX_snoc,h,add_n,ih]
theorem finJ_n (es:List Ent):(finJ (runX n lv es)).n=n:=by
 unfold finJ;exact run_n es n lv
theorem finJ_size (es:List Ent):(finJ (runX n lv es)).size=(fileT n lv es).length:=by
 unfold finJ fileT;rw[List.length_append]
end
theorem own_last {nm:L}(hr:rightB nm=true):(ownD4 nm).1.last=(ownD4 nm).1.names∧(ownD4 nm).1.chg=[]:=by
 have h4:=(own_begin hr).2.2.2.1;unfold ownD4 Dsk.dirsync at h4 ⊢
 split at h4
 ·exact absurd (show (7:Nat)=0 from h4) (by decide)
 ·rename_i q1
  rw[if_neg q1]
  split at h4
  ·exact absurd (show (7:Nat)=0 from h4) (by decide)
  ·rename_i q2
   rw[if_neg q2];exact⟨rfl,rfl⟩
def LaQ (i N:Nat)(s:Dsk):Prop:=Held s otherW i textW∧(N=0→s.last=s.names∧s.chg=[])
theorem none_pres {N:Nat}:Pres (fun s=>N=0→s.last=s.names∧s.chg=[]) (JobN N):=by
 have hno:∀ {n:L},JobN N n→N≠0:=fun ⟨j,hj,_⟩ e=>by omega
 refine⟨fun s n h _ e=>absurd e (hno h),fun s n x h _ e=>absurd e (hno h),fun s n h _ e=>absurd e (hno h),fun s n h _ e=>absurd e (hno h),fun s h e=>?_⟩;obtain⟨h1,h2⟩:=h e;obtain⟨b1,b2,b3,b4,_⟩:=@Dsk.burn_same s;unfold Dsk.dirsync;split
 ·exact⟨h1,h2⟩
 ·split
  ·exact⟨by rw[b2,b3];exact h1,by rw[b4];exact h2⟩
  ·exact⟨rfl,rfl⟩
theorem la_pres (i N:Nat)(hN:N≤6):Pres (LaQ i N) (JobN N) :=
 ((held_pres (by decide)).less (fun n ⟨j,hj,e⟩=>by rw[e];exact nameT_other _)).and none_pres
theorem other_right:rightB otherW=true:=by decide +kernel
structure Back (LS:List (List Ent))(s:Dsk):Prop where
 off:s.off=false
 other:s.read otherW=(textW,0)
 num:s.names.length=LS.length+1
 tab:∀j,j<LS.length→s.read (nameT (5+j))=(fileT (5+j) 0 (LS.getD j []),0)
theorem baseN_ne {nm q:L}:baseN nm q≠none↔q∈[nm]:=by
 unfold baseN Dsk.updF
 by_cases e:q=nm
 ·rw[if_pos e,e];simp
 ·rw[if_neg e];simp[e]
theorem lasts_back {LS:List (List Ent)}{i0 i:Nat}{r:SR}(hLs:LsOk LS)(hb:BaseOk 5 (baseN otherW) [otherW])(h:FuI 0 5 0 LS (baseN otherW) (JobN LS.length) (LaQ i0 LS.length) i r)(hd:r.e=0→r.done=true)(c:Cra) :
  r.e=0∧r.J.ts=tabsT 5 0 LS LS.length∧Back LS (r.s.crash c).start:=by
 have h6:=hLs.few
 have he:r.e=0:=by
  rcases h.1 with q | q
  ·exact q.1
  ·exact absurd q.pos (by decide)
 have hdn:=hd he;obtain⟨hh,⟨hH,hZ⟩,_⟩:=h;obtain⟨_,_,_,hJ,hD,_,hL,_⟩:=hh.resolve_right (fun q=>absurd q.pos (by decide));obtain⟨hli,hlast⟩:=hL hdn
 have hLC:r.s.last=r.s.names∧r.s.chg=[]:=by
  rcases Nat.eq_zero_or_pos LS.length with e | e
  ·exact hZ e
  ·exact hlast e
 have hen:=hJ.en0 hli;have hts:=hD.ts;rw[hli] at hts;refine⟨he,hts,rfl,(hH.crash c).start.read rfl,?_,fun j hj=>?_⟩
 ·have hn:=JDisk.names hLs hJ hb hD (fun k=>baseN_ne) (by simp)
  have hcn:(r.s.crash c).start.names=r.s.names:=by
   show (r.s.chg.take _).foldl doesC r.s.last=r.s.names
   rw[hLC.2,hLC.1];simp
  rw[hcn,hn];unfold cntJ;rw[if_pos hen,hli];simp;omega
 ·have hf:=hD.fil (nameT (5+j));unfold wantF at hf
  rw[if_pos hen,hli,doneF_at (by omega) LS.length (Nat.le_refl _) j hj] at hf
  obtain⟨i,hh⟩:=Dsk.held_of hD.calm.dir hLC.1 hLC.2 (d:=fileT (5+j) 0 (LS.getD j [])) hf;exact (hh.crash c).start.read rfl
end Go.Proofs.YtlpojfgeocpkeaaGreatDoor
