/- JobWrites: plain. How many tables and files there are behind so many steps; what is told of a table. Contracts of the document's job: Steps, Written, Begun. -/
import Derived.Test.YtlpojfgeocpkeaaGreatDoorX40
import Derived.Test.YtlpojfgeocpkeaaGreatDoorX28
namespace Go.Proofs.YtlpojfgeocpkeaaGreatDoor
open Go.RowKit Go.Sort
set_option linter.unusedVariables false
set_option linter.unusedSimpArgs false
def stepsG (w:List (List Ent)):Nat:=if totE w=0 then 1 else (totE w+7) / 8
def writtenG:List (List Ent)→Nat→Nat
 | [],_=>0
 | l::r,left=>if l.length=0 then writtenG r left else if left<l.length then 0 else writtenG r (left-l.length)+1
def begunG:List (List Ent)→Nat→Nat
 | [],_=>0
 | l::r,left=>if l.length=0 then begunG r left else if left<1 then 0 else begunG r (left-l.length)+1
theorem begunG_zero:∀r:List (List Ent),begunG r 0=0
 | []=>rfl
 | l::r=>by
  unfold begunG;split
  ·exact begunG_zero r
  ·rw[if_pos (by decide)]
theorem totE_cons (l:List Ent)(r:List (List Ent)):totE (l::r)=l.length+totE r:=by
 unfold totE;simp
theorem writtenG_cons (l:List Ent)(r:List (List Ent))(left:Nat):writtenG (l::r) left=if l.length=0 then writtenG r left else if left<l.length then 0 else writtenG r (left-l.length)+1:=rfl
theorem begunG_cons (l:List Ent)(r:List (List Ent))(left:Nat):begunG (l::r) left=if l.length=0 then begunG r left else if left<1 then 0 else begunG r (left-l.length)+1:=rfl
theorem some_counts:∀(w:List (List Ent)) (left:Nat),writtenG (w.filter fun l=>decide (0<l.length)) left=writtenG w left∧begunG (w.filter fun l=>decide (0<l.length)) left=begunG w left∧totE (w.filter fun l=>decide (0<l.length))=totE w
 | [],_=>⟨rfl,rfl,rfl⟩
 | l::r,left=>by
  rw[List.filter_cons]
  by_cases h:0<l.length
  ·rw[if_pos (by simpa using h),totE_cons,totE_cons,(some_counts r left).2.2,writtenG_cons,writtenG_cons,begunG_cons,begunG_cons,(some_counts r (left-l.length)).1,(some_counts r (left-l.length)).2.1,(some_counts r left).1,(some_counts r left).2.1];exact⟨rfl,rfl,rfl⟩
  ·rw[if_neg (by simpa using h),totE_cons,(some_counts r left).2.2,writtenG_cons,begunG_cons,if_pos (by omega),if_pos (by omega),(some_counts r left).1,(some_counts r left).2.1];exact⟨rfl,rfl,by omega⟩
theorem stands_at:∀(LS:List (List Ent)) (li en left:Nat),(∀l∈LS,0<l.length)→li≤LS.length→(li<LS.length→en<(LS.getD li []).length)→(li=LS.length→en=0)→((LS.take li).map List.length).sum+en=min left (totE LS) →
  writtenG LS left=li∧begunG LS left=if en=0 then li else li+1
 | [],li,en,left,_,hl,_,h0,_=>by
  have e:li=0:=Nat.le_zero.1 hl;subst e;rw[h0 rfl];exact⟨rfl,rfl⟩
 | l::r,li,en,left,hp,hl,he,h0,hs=>by
  have hp0:=hp l (List.mem_cons_self ..);rw[totE_cons] at hs;rcases li with _ | li
  ·have he:=he (by simp);simp only[List.getD_cons_zero] at he;simp only[List.take_zero,List.map_nil,List.sum_nil] at hs
   have:left<l.length:=by omega
   have e2:en=left:=by omega
   unfold writtenG begunG;rw[if_neg (by omega),if_pos this,if_neg (by omega)];refine⟨rfl,?_⟩
   by_cases hz:left<1
   ·rw[if_pos hz,if_pos (by omega)]
   ·rw[if_neg hz,if_neg (by omega),show left-l.length=0 from by omega,begunG_zero]
  ·simp only[List.take_succ_cons,List.map_cons,List.sum_cons] at hs
   have ih:=stands_at r li en (left-l.length) (fun x hx=>hp x (List.mem_cons_of_mem _ hx)) (by simpa using hl) (fun q=>by
    have:=he (by simp;omega)
    simpa using this) (fun q=>h0 (by simp;omega)) (by omega)
   have hle:¬left<l.length:=by omega
   unfold writtenG begunG;rw[if_neg (by omega),if_neg hle,if_neg (by omega),if_neg (by omega),ih.1,ih.2];refine⟨rfl,?_⟩
   split<;>rfl
theorem JOk.counts {LS:List (List Ent)}{J:JW}(hls:LsOk LS)(h:JOk LS J){left:Nat}(hp:posE LS J=min left (totE LS)):writtenG LS left=J.li∧begunG LS left=cntJ J :=
 stands_at LS J.li J.en left (fun l hl=>(hls.ok l hl).pos) h.li h.en h.en0 hp
structure WrI (n:Nat)(lv:Int)(ls:List (List Ent))(i:Nat)(r:SR):Prop where
 e:r.e=0
 dead:r.dead=false
 over:r.over=false
 ok:JOk ls r.J
 disk:JDisk 1048576 0 n lv ls (fun _=>none) r.J r.s
 pos:posE ls r.J=min (8*i) (totE ls)
 done:r.done=true↔stepsG ls≤i
theorem WrI.start {n:Nat}{lv:Int}{ls:List (List Ent)}(hls:LsOk ls):WrI n lv ls 0 ⟨⟨0,0,[],[]⟩,Dsk.new 1048576,false,0,false,false,false⟩ :=
 ⟨rfl,rfl,rfl,JOk.zero hls,.zero (calm_new 1048576) (fun k=>rfl),by show posE ls _=_;unfold posE;simp,⟨fun e=>(by cases e),fun e=>absurd e (by unfold stepsG;split<;>omega)⟩⟩
theorem WrI.next {n:Nat}{lv:Int}{ls:List (List Ent)}{i:Nat}{r:SR}(hls:LsOk ls)(hn:n≤4294967296)(h:WrI n lv ls i r):WrI n lv ls (i+1) (stepR n lv ls r.J r.s)∧(stepR n lv ls r.J r.s).ret=(stepR n lv ls r.J r.s).done:=by
 have q:=stepR_calm hls (base_none n hn) h.ok h.disk;have hp:=h.pos;refine⟨⟨q.e,q.dead,q.over,q.ok,q.disk,by rw[q.pos,h.pos];omega,?_⟩,q.ret⟩
 rw[q.done_iff,h.pos]
 unfold stepsG
 split<;>omega
theorem WrI.counts {n:Nat}{lv:Int}{ls:List (List Ent)}{i:Nat}{r:SR}(hls:LsOk ls)(hn:n≤4294967296)(h:WrI n lv ls i r):writtenG ls (8*i)=r.J.li∧begunG ls (8*i)=r.J.fs.length∧r.s.names.length=r.J.fs.length∧r.J.fs=namesT n r.J.fs.length∧r.J.ts=tabsT n lv ls r.J.li∧r.J.fs.length≤6∧r.J.li≤ls.length:=by
 obtain⟨h1,h2⟩:=h.ok.counts hls h.pos;have h3:=JDisk.names hls h.ok (base_none n hn) h.disk (fun k=>⟨fun q=>absurd rfl q,fun q=>by cases q⟩) List.nodup_nil
 have h4:r.J.fs.length=cntJ r.J:=by rw[h.disk.fs,namesT_len]
 have h5:=h.ok.few.fs;have h6:=hls.few;refine⟨h1,by rw[h4];exact h2,by rw[h3,h4];simp,by rw[h4];exact h.disk.fs,h.disk.ts,by omega,h.ok.li⟩
theorem WrI.last {n:Nat}{lv:Int}{ls:List (List Ent)}{i:Nat}{r:SR}(h:WrI n lv ls i r)(hi:stepsG ls≤i):r.done=true∧r.J.li=ls.length:=by
 refine⟨h.done.2 hi,?_⟩
 have hp:=h.pos;have hli:=h.ok.li;have h2:=(posE_le h.ok).2.1
 have:totE ls≤8*i:=by
  unfold stepsG at hi
  split at hi<;>omega
 rcases Nat.lt_or_ge r.J.li ls.length with q | q
 ·have:=h2 q;omega
 ·omega
theorem WrI.tab {n:Nat}{lv:Int}{ls:List (List Ent)}{i:Nat}{r:SR}(hls:LsOk ls)(hn:n≤4294967296)(h:WrI n lv ls i r){j:Nat}(hj:j<r.J.li):r.s.read (nameT (n+j))=(fileT (n+j) lv (ls.getD j []),0):=by
 have h6:=hls.few;have hli:=h.ok.li;have hf:=h.disk.fil (nameT (n+j))
 have hd:=doneF_at (n:=n) (lv:=lv) (base:=fun _=>none) (ls:=ls) (by omega) r.J.li hli j hj
 have:r.s.fil (nameT (n+j))=some (wholeF (fileT (n+j) lv (ls.getD j []))):=by
  rw[hf];unfold wantF;split
  ·exact hd
  ·unfold Dsk.updF;rw[if_neg (fun q=>by have:=nameT_inj (by omega) (by omega) q;omega)];exact hd
 exact Dsk.read_fil h.disk.calm.ok h.disk.calm.off this
def minS (l:List Ent)(k:Nat):Nat:=(l.take k).foldl (fun a e=>min a e.seq) (headD l)
def maxS (l:List Ent)(k:Nat):Nat:=(l.take k).foldl (fun a e=>max a e.seq) (headD l)
theorem minS_succ {l:List Ent}{i:Nat}{e:Ent}(h:l[i]? = some e):minS l (i+1)=min (minS l i) e.seq:=by
 unfold minS;have hi:=(List.getElem?_eq_some_iff.1 h).1;rw[List.take_succ_eq_append_getElem hi,List.foldl_append,(List.getElem?_eq_some_iff.1 h).2];rfl
theorem maxS_succ {l:List Ent}{i:Nat}{e:Ent}(h:l[i]? = some e):maxS l (i+1)=max (maxS l i) e.seq:=by
 unfold maxS;have hi:=(List.getElem?_eq_some_iff.1 h).1;rw[List.take_succ_eq_append_getElem hi,List.foldl_append,(List.getElem?_eq_some_iff.1 h).2];rfl
def tabR (l:List Ent)(lv:Int)(n:Nat)(sz:Nat):TI:=⟨n,lv,l.length,sz,(l.head?.map (·.key)).getD [],(l.getLast?.map (·.key)).getD [],minS l l.length,maxS l l.length⟩
theorem ti_eq {t:TI}{n c le mo:Nat}{lv:Int}{f la:L}(z:Nat)(h1:t.n=n)(h2:t.level=lv)(h3:t.count=c)(h4:t.first=f)(h5:t.last=la)(h6:t.least=le)(h7:t.most=mo):{ t with size:=z }=(⟨n,lv,c,z,f,la,le,mo⟩:TI):=by
 subst h1 h2 h3 h4 h5 h6 h7;rfl
theorem finJ_tab {n:Nat}{lv:Int}{l:List Ent}(h:OkL l):finJ (runX n lv l)=tabR l lv n (fileT n lv l).length:=by
 obtain⟨bl,cu,hI⟩:=h.runI n lv l.length (Nat.le_refl _);rw[List.take_length] at hI;unfold finJ tabR minS maxS fileT;rw[List.take_length,List.length_append]
 exact ti_eq _ hI.tn hI.tl hI.count hI.first hI.tlast hI.least hI.most
def lsOf (ls:List EL):List (List Ent):=ls.map (·.l)
theorem lsOf_drop {ls:List EL}{i:Nat}{x:EL}(hx:ls[i]? = some x):lsOf (ls.drop i)=x.l::lsOf (ls.drop (i+1)):=by
 obtain⟨hi,e⟩:=List.getElem?_eq_some_iff.1 hx;rw[List.drop_eq_getElem_cons hi,e];rfl
theorem totE_take {ls:List EL}{i:Nat}{x:EL}(hx:ls[i]? = some x):totE (lsOf (ls.take (i+1)))=totE (lsOf (ls.take i))+x.l.length:=by
 obtain⟨hi,e⟩:=List.getElem?_eq_some_iff.1 hx;rw[List.take_succ_eq_append_getElem hi,e];unfold lsOf totE;simp
theorem totE_60 {ls:List EL}(h:∀x∈ls,x.l.length≤60):totE (lsOf ls)≤60*ls.length:=by
 induction ls with
 | nil=>exact Nat.le_refl _
 | cons x l ih =>
  have h1:=ih (fun y hy=>h y (List.mem_cons_of_mem _ hy));have h2:=h x (List.mem_cons_self ..);show totE (x.l::lsOf l)≤_;rw[totE_cons,List.length_cons];omega
section
variable {w:World}{A:Option Addr}{ls:List EL}{cap:Nat}
set_option maxRecDepth 100000 in
set_option maxHeartbeats 4000000 in
theorem Steps_any (h:LsAt w w.heap.size A ls)(hn:ls.length≤6)(hl:∀x∈ls,x.l.length≤60) :
  Calls Tryz.prog 22 #[.slice A ls.length cap] w fun e w'=>e=.returned (.int .i64 (stepsG (lsOf ls):Nat))∧w=w':=by
 obtain⟨N,hN⟩:∃N,ls.length=N:=⟨_,rfl⟩
 have hT:totE (lsOf ls)≤360:=by have:=totE_60 hl;omega
 have hTk:∀k,totE (lsOf (ls.take k))≤360:=fun k=>by
  have:=totE_60 (ls:=ls.take k) (fun x hx=>hl x (List.mem_of_mem_take hx));rw[List.length_take] at this;omega
 have hTN:totE (lsOf (ls.take N))=totE (lsOf ls):=by rw[←hN,List.take_length]
 rw[hN] at hn ⊢;obtain⟨R,hR⟩:∃R,stepsG (lsOf ls)=R:=⟨_,rfl⟩;rw[hR];unfold stepsG at hR;rw[←hTN] at hR;replace h:=Lib.hid h;replace hl:=Lib.hid hl;replace hN:=Lib.hid hN;replace hT:=Lib.hid hT;replace hTk:=Lib.hid hTk;replace hTN:=Lib.hid hTN;replace hR:=Lib.hid hR
 go_enter Tryz.func22,Tryz.ntmps22
 go_wp2_with fail
 go_loopw [3,4] (fun nv iv wr=>∃(i:Nat),i≤N∧nv=.int .i64 (totE (lsOf (ls.take i)):Nat)∧iv=.int .i64 (i:Nat)∧w=wr) (fun _ iv _=>N-(intOf iv).toNat)
 case atStart=>exact⟨0,Nat.zero_le _,rfl,rfl,rfl⟩
 case round =>
  obtain⟨i,hi,rfl,rfl,rfl⟩:=hrel;have hTi:=hTk.out i
  by_cases hlt:i<N
  ·have hil:i<ls.length:=by have:=hN.out;omega
   have hx:=List.getElem?_eq_getElem hil;have hxl:=hl.out _ (List.getElem_mem hil);have hdr:=lsOf_drop hx;have htk:=totE_take hx
   generalize ls[i]=x at *
   obtain⟨bb,oo,hA,hbb,hcell⟩:=h.out.at_ hx;subst hA;obtain⟨M,hM⟩:∃M,x.l.length=M:=⟨_,rfl⟩;rw[hM] at hcell hxl htk;replace hx:=Lib.hid hx;replace hdr:=Lib.hid hdr;replace htk:=Lib.hid htk;replace hM:=Lib.hid hM
   have hlt':(i:Int)<N:=by omega
   generalize totE (lsOf (ls.take i))=T at *
   go_wp2_with fail
   exact⟨⟨i+1,by omega,by rw[htk.out];go_num,by go_num,(by first | rfl | trivial)⟩,by simp[intOf];omega⟩
  ·obtain rfl:i=N:=by omega
   have hlt':¬(i:Int)<i:=by omega
   have hR2:=hR.out
   generalize totE (lsOf (ls.take i))=T at *
   by_cases hz:T=0
   ·rw[if_pos hz] at hR2
    have hz':(T:Int)=0:=by omega
    have hzb:((T:Int)==0)=true:=by rw[hz'];rfl
    subst hR2;replace hz:=Lib.hid hz;replace hz':=Lib.hid hz';go_wp2_with fail
    go_ret
    exact⟨rfl,rfl⟩
   ·rw[if_neg hz] at hR2
    have hz':¬(T:Int)=0:=by omega
    have hzb:((T:Int)==0)=false:=by simpa using hz
    have hq:((T:Int)+7) / 8=(R:Nat):=by omega
    have hq2:Int.tdiv ((T:Int)+7) 8=(R:Nat):=by rw[Int.tdiv_eq_ediv_of_nonneg (by omega)];exact hq
    replace hR2:=Lib.hid hR2;replace hz:=Lib.hid hz;replace hq:=Lib.hid hq;replace hq2:=Lib.hid hq2;go_wp2_with fail
    (first | rw[hq2.out] | rw[hq.out] | skip)
    go_ret
    exact⟨by first | rfl | (rw[hq.out]) | (rw[hq2.out]),rfl⟩
set_option maxRecDepth 100000 in
set_option maxHeartbeats 4000000 in
theorem Written_any (h:LsAt w w.heap.size A ls)(hn:ls.length≤6)(hl:∀x∈ls,x.l.length≤60)(s:Nat)(hs:s≤1000000) :
  Calls Tryz.prog 23 #[.slice A ls.length cap,.int .i64 (s:Nat)] w fun e w'=>e=.returned (.int .i64 (writtenG (lsOf ls) (8*s):Nat))∧w=w':=by
 obtain⟨N,hN⟩:∃N,ls.length=N:=⟨_,rfl⟩
 have hdN:lsOf (ls.drop N)=[]:=by rw[←hN,List.drop_length];rfl
 rw[hN] at hn ⊢;obtain⟨R,hR⟩:∃R,writtenG (lsOf ls) (8*s)=R:=⟨_,rfl⟩;rw[hR];replace h:=Lib.hid h;replace hl:=Lib.hid hl;replace hN:=Lib.hid hN;replace hdN:=Lib.hid hdN;replace hR:=Lib.hid hR
 go_enter Tryz.func23,Tryz.ntmps23
 go_wp2_with fail
 go_loopw [5,6,7] (fun lv nv iv wr=>∃(i L n:Nat),i≤N∧n≤i∧L≤8000000∧lv=.int .i64 (L:Nat)∧nv=.int .i64 (n:Nat)∧iv=.int .i64 (i:Nat)∧writtenG (lsOf (ls.drop i)) L+n=R∧w=wr) (fun _ _ iv _=>N-(intOf iv).toNat)
 case atStart=>exact⟨0,8*s,0,Nat.zero_le _,Nat.le_refl _,by omega,by first | rfl | (push_cast;rfl),rfl,rfl,hR.out,rfl⟩
 case round =>
  obtain⟨i,L,n,hi,hni,hL8,rfl,rfl,rfl,hq,rfl⟩:=hrel
  by_cases hlt:i<N
  ·have hil:i<ls.length:=by have:=hN.out;omega
   have hx:=List.getElem?_eq_getElem hil;have hxl:=hl.out _ (List.getElem_mem hil);have hdr:=lsOf_drop hx;have htk:=totE_take hx
   generalize ls[i]=x at *
   obtain⟨bb,oo,hA,hbb,hcell⟩:=h.out.at_ hx;subst hA;obtain⟨M,hM⟩:∃M,x.l.length=M:=⟨_,rfl⟩;rw[hM] at hcell hxl htk;replace hx:=Lib.hid hx;replace hdr:=Lib.hid hdr;replace htk:=Lib.hid htk;replace hM:=Lib.hid hM
   have hlt':(i:Int)<N:=by omega
   rw[hdr.out,writtenG_cons,hM.out] at hq
   by_cases h0:M=0
   ·rw[if_pos h0] at hq
    have h0b:((M:Int)==0)=true:=by rw[h0];rfl
    have h0':(M:Int)=0:=by omega
    replace h0:=Lib.hid h0;replace h0':=Lib.hid h0';replace hq:=Lib.hid hq;go_wp2_with fail
    exact⟨⟨i+1,L,n,by omega,by omega,hL8,rfl,rfl,by go_num,hq.out,(by first | rfl | trivial)⟩,by simp[intOf];omega⟩
   ·rw[if_neg h0] at hq
    have h0b:((M:Int)==0)=false:=by simpa using h0
    have h0':¬(M:Int)=0:=by omega
    by_cases h1:L<M
    ·rw[if_pos h1,Nat.zero_add] at hq
     have h1':(L:Int)<M:=by omega
     subst hq;replace h0:=Lib.hid h0;go_wp2_with fail
     go_ret
     exact⟨rfl,rfl⟩
    ·rw[if_neg h1] at hq
     have h1':¬(L:Int)<M:=by omega
     have hs:((L-M:Nat):Int)=(L:Int)-M:=by omega
     replace hs:=Lib.hid hs;replace h0:=Lib.hid h0;replace hq:=Lib.hid hq;go_wp2_with fail
     exact⟨⟨i+1,L-M,n+1,by omega,by omega,by omega,(by rw[hs.out]),by go_num,by go_num,by have:=hq.out;omega,(by first | rfl | trivial)⟩,by simp[intOf];omega⟩
  ·obtain rfl:i=N:=by omega
   have hlt':¬(i:Int)<i:=by omega
   rw[hdN.out,show writtenG [] L=0 from rfl,Nat.zero_add] at hq;subst hq;go_wp2_with fail
   go_ret
   exact⟨rfl,rfl⟩
set_option maxRecDepth 100000 in
set_option maxHeartbeats 4000000 in
theorem Begun_any (h:LsAt w w.heap.size A ls)(hn:ls.length≤6)(hl:∀x∈ls,x.l.length≤60)(s:Nat)(hs:s≤1000000) :
  Calls Tryz.prog 24 #[.slice A ls.length cap,.int .i64 (s:Nat)] w fun e w'=>e=.returned (.int .i64 (begunG (lsOf ls) (8*s):Nat))∧w=w':=by
 obtain⟨N,hN⟩:∃N,ls.length=N:=⟨_,rfl⟩
 have hdN:lsOf (ls.drop N)=[]:=by rw[←hN,List.drop_length];rfl
 rw[hN] at hn ⊢;obtain⟨R,hR⟩:∃R,begunG (lsOf ls) (8*s)=R:=⟨_,rfl⟩;rw[hR];replace h:=Lib.hid h;replace hl:=Lib.hid hl;replace hN:=Lib.hid hN;replace hdN:=Lib.hid hdN;replace hR:=Lib.hid hR
 go_enter Tryz.func24,Tryz.ntmps24
 go_wp2_with fail
 go_loopw [5,6,7] (fun lv nv iv wr=>∃(i n:Nat) (L:Int),i≤N∧n≤i∧L≤8000000∧-60≤L∧lv=.int .i64 L∧nv=.int .i64 (n:Nat)∧iv=.int .i64 (i:Nat)∧begunG (lsOf (ls.drop i)) L.toNat+n=R∧w=wr) (fun _ _ iv _=>N-(intOf iv).toNat)
 case atStart=>exact⟨0,0,8*(s:Int),Nat.zero_le _,Nat.le_refl _,by omega,by omega,rfl,rfl,rfl,by rw[show (8*(s:Int)).toNat=8*s from by omega];exact hR.out,rfl⟩
 case round =>
  obtain⟨i,n,L,hi,hni,hL8,hL6,rfl,rfl,rfl,hq,rfl⟩:=hrel
  by_cases hlt:i<N
  ·have hil:i<ls.length:=by have:=hN.out;omega
   have hx:=List.getElem?_eq_getElem hil;have hxl:=hl.out _ (List.getElem_mem hil);have hdr:=lsOf_drop hx;have htk:=totE_take hx
   generalize ls[i]=x at *
   obtain⟨bb,oo,hA,hbb,hcell⟩:=h.out.at_ hx;subst hA;obtain⟨M,hM⟩:∃M,x.l.length=M:=⟨_,rfl⟩;rw[hM] at hcell hxl htk;replace hx:=Lib.hid hx;replace hdr:=Lib.hid hdr;replace htk:=Lib.hid htk;replace hM:=Lib.hid hM
   have hlt':(i:Int)<N:=by omega
   rw[hdr.out,begunG_cons,hM.out] at hq
   by_cases h0:M=0
   ·rw[if_pos h0] at hq
    have h0b:((M:Int)==0)=true:=by rw[h0];rfl
    have h0':(M:Int)=0:=by omega
    replace h0:=Lib.hid h0;replace h0':=Lib.hid h0';replace hq:=Lib.hid hq;go_wp2_with fail
    exact⟨⟨i+1,n,L,by omega,by omega,hL8,hL6,rfl,rfl,by go_num,hq.out,(by first | rfl | trivial)⟩,by simp[intOf];omega⟩
   ·rw[if_neg h0] at hq
    have h0b:((M:Int)==0)=false:=by simpa using h0
    have h0':¬(M:Int)=0:=by omega
    by_cases h1:L<1
    ·rw[if_pos (by omega),Nat.zero_add] at hq;subst hq;replace h0:=Lib.hid h0;go_wp2_with fail
     go_ret
     exact⟨rfl,rfl⟩
    ·rw[if_neg (by omega)] at hq
     have hs:(L-(M:Int)).toNat=L.toNat-M:=by omega
     replace hs:=Lib.hid hs;replace h0:=Lib.hid h0;replace hq:=Lib.hid hq;go_wp2_with fail
     exact⟨⟨i+1,n+1,L-M,by omega,by omega,by omega,by omega,by first | rfl | go_num,by go_num,by go_num,by rw[hs.out];have:=hq.out;omega,(by first | rfl | trivial)⟩,by simp[intOf];omega⟩
  ·obtain rfl:i=N:=by omega
   have hlt':¬(i:Int)<i:=by omega
   rw[hdN.out,show begunG [] L.toNat=0 from rfl,Nat.zero_add] at hq;subst hq;go_wp2_with fail
   go_ret
   exact⟨rfl,rfl⟩
end
end Go.Proofs.YtlpojfgeocpkeaaGreatDoor
