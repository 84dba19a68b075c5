/- Contracts of package job: give when the power is gone; what Step defers. Package job, plain: what Step does. A job between two calls: write, give. What stands at Step's door. Package job, plain: how a step ends. Contracts of package job: Step. -/
import Derived.Test.YtlpojfgeocpkeaaGreatDoorJN11J
import Derived.Defers
import Derived.Test.YtlpojfgeocpkeaaGreatDoorX33
namespace Go.Proofs.YtlpojfgeocpkeaaGreatDoor
open Go.RowKit Go.Sort
set_option linter.unusedVariables false
set_option linter.unusedSimpArgs false
theorem results_two_cells {fn:Func}{p q:Tmp}{ty tz:TypeId}(h:fn.results=#[.cell p ty,.cell q tz])(tmps:Array Value)(w:World)(g k:Nat)(v x:Value)
  (hp:tmps.getD p undef=.pointer (some ⟨g,0,none⟩)) (hq:tmps.getD q undef=.pointer (some ⟨k,0,none⟩)) (hl:(loadVar ty ⟨g,0,none⟩).run Tryz.prog w=.ok v w) (hm:(loadVar tz ⟨k,0,none⟩).run Tryz.prog w=.ok x w) :
  (results fn tmps).run Tryz.prog w=.ok (.tuple #[v,x]) w:=by
 have:(results fn tmps).run Tryz.prog w=((asAddr (tmps.getD p undef)).run Tryz.prog w).andThen fun a w₁=>((loadVar ty a).run Tryz.prog w₁).andThen fun v w₂=>((asAddr (tmps.getD q undef)).run Tryz.prog w₂).andThen fun b w₃=>((loadVar tz b).run Tryz.prog w₃).andThen fun x w₄=>.ok (.tuple #[v,x]) w₄:=by
  simp only[results,h];simp[Sem.run_bind,Result.andThen]
 rw[this,hp,hq];simp[asAddr,hl,hm]
set_option maxRecDepth 100000 in
set_option maxHeartbeats 1000000 in
theorem give_down {w:World}{g:Nat}{dv vl vt vf:Value}{lv:Int}{n li en:Nat}{gb:Option Addr}{done over dead:Bool}(hB:Blk w g 88 (jobC dv lv n vl li en gb vt vf done over dead)) :
  Calls Tryz.prog 48 #[.pointer (some ⟨g,0,none⟩),.int .i64 7] w fun e w'=>e=.returned (.int .i64 7)∧w'=w.setCell ⟨g,11,none⟩ (.bool true):=by
 have c11:=hB.cell 11;have hf:=hB.frozen 11;have hl:=hB.lt;replace hB:=Lib.hid hB
 go_enter Tryz.func48,Tryz.ntmps48
 go_wp2_with fail
 go_ret
 exact⟨rfl,rfl⟩
set_option maxRecDepth 100000 in
set_option maxHeartbeats 1000000 in
theorem stp1_ok {w:World}{be bj bd:Nat}(he:w.cell? ⟨be,0,none⟩=some (.int .i64 0)):CallsD Tryz.prog 47 #[.pointer (some ⟨be,0,none⟩),.pointer (some ⟨bj,0,none⟩),.pointer (some ⟨bd,0,none⟩)] .returning w fun e u' w'=>u'=.returning∧(e=.returned (.tuple #[])∧w'=w):=by
 have hel:=cell_lt he
 go_enter_d Tryz.func47,Tryz.ntmps47
 go_wp2_with fail
 go_end0
 exact⟨rfl,rfl⟩
set_option maxRecDepth 100000 in
set_option maxHeartbeats 1000000 in
theorem stp1_err {w:World}{be bj bd g why:Nat}{P:Nat→World→Prop}(hw:why≠0)(he:w.cell? ⟨be,0,none⟩=some (.int .i64 (why:Nat)))(hj:w.cell? ⟨bj,0,none⟩=some (.pointer (some ⟨g,0,none⟩)))
  (hg:Calls Tryz.prog 48 #[.pointer (some ⟨g,0,none⟩),.int .i64 (why:Nat)] w fun e w'=>∃r:Nat,e=.returned (.int .i64 (r:Nat))∧P r w')
  (hP:∀r w',P r w'→(∃v,w'.cell? ⟨be,0,none⟩=some v)∧w'.frozen? ⟨be,0,none⟩=false∧(∃v,w'.cell? ⟨bd,0,none⟩=some v)∧w'.frozen? ⟨bd,0,none⟩=false) (hne:be≠bd) :
  CallsD Tryz.prog 47 #[.pointer (some ⟨be,0,none⟩),.pointer (some ⟨bj,0,none⟩),.pointer (some ⟨bd,0,none⟩)] .returning w fun e u' w'=>u'=.returning∧(e=.returned (.tuple #[])∧∃(r:Nat) (w1:World),P r w1∧w'=(w1.setCell ⟨bd,0,none⟩ (.bool false)).setCell ⟨be,0,none⟩ (.int .i64 (r:Nat))):=by
 have hw':¬(why:Int)=0:=by omega
 have hw2:((why:Int)==0)=false:=by simpa using hw'
 have hel:=cell_lt he;have hjl:=cell_lt hj;have hne':¬bd=be:=fun e=>hne e.symm;replace hg:=Lib.hid hg;replace hP:=Lib.hid hP
 go_enter_d Tryz.func47,Tryz.ntmps47
 go_wp2_with fail
 refine hg.out.mono ?_;rintro e w1 ⟨r,rfl,hp⟩;obtain⟨⟨v1,q1⟩,q2,⟨v3,q3⟩,q4⟩:=hP.out _ _ hp;have q5:=cell_lt q1;have q6:=cell_lt q3;replace hp:=Lib.hid hp;go_wp2_with fail
 go_end0
 exact⟨rfl,r,w1,hp.out,rfl⟩
end Go.Proofs.YtlpojfgeocpkeaaGreatDoor
namespace Go.Proofs.YtlpojfgeocpkeaaGreatDoor
open Go.RowKit Go.Lib
set_option linter.unusedVariables false
set_option linter.unusedSimpArgs false
def stepsE (n:Nat)(lv:Int)(ls:List (List Ent)):Nat→JW→Dsk→JW × Dsk × Nat
 | 0,J,s=>(J,s,0)
 | k+1,J,s=>if J.li=ls.length then (J,s,0) else if (writeE n lv (ls.getD J.li []) J s).2.2=0 then stepsE n lv ls k (writeE n lv (ls.getD J.li []) J s).1 (writeE n lv (ls.getD J.li []) J s).2.1 else writeE n lv (ls.getD J.li []) J s
structure SR where
 J:JW
 s:Dsk
 ret:Bool
 e:Nat
 done:Bool
 over:Bool
 dead:Bool
def giveR (J:JW)(s:Dsk)(why:Nat):SR :=
 if why=7 then ⟨J,s,false,7,false,false,true⟩
 else if (delsE J.fs s).2 then ⟨J,(delsE J.fs s).1,false,7,false,false,true⟩
 else ⟨⟨J.li,J.en,[],[]⟩,(delsE J.fs s).1,false,why,false,true,false⟩
def endR (ls:List (List Ent))(r:JW × Dsk × Nat):SR :=
 if r.2.2=0 then
  if r.1.li<ls.length then ⟨r.1,r.2.1,false,0,false,false,false⟩
  else if 0<ls.length then (if r.2.1.dirsync.2=0 then ⟨r.1,r.2.1.dirsync.1,true,0,true,false,false⟩ else giveR r.1 r.2.1.dirsync.1 r.2.1.dirsync.2)
  else ⟨r.1,r.2.1,true,0,true,false,false⟩
 else giveR r.1 r.2.1 r.2.2
def stepR (n:Nat)(lv:Int)(ls:List (List Ent))(J:JW)(s:Dsk):SR:=endR ls (stepsE n lv ls 8 J s)
structure JOk (ls:List (List Ent))(J:JW):Prop where
 li:J.li≤ls.length
 en:J.li<ls.length→J.en<(ls.getD J.li []).length
 en0:J.li=ls.length→J.en=0
 ts:J.ts.length=J.li
 fs:J.fs.length=if J.en=0 then J.li else J.li+1
 nm:∀f∈J.fs,f.length≤40
structure LsOk (ls:List (List Ent)):Prop where
 ok:∀l∈ls,OkL l
 few:ls.length≤6
structure JFew (ls:List (List Ent))(J:JW):Prop where
 fs:J.fs.length≤ls.length
 nm:∀f∈J.fs,f.length≤40
theorem JOk.few {ls:List (List Ent)}{J:JW}(h:JOk ls J):JFew ls J:=by
 refine⟨?_,h.nm⟩;have h1:=h.fs;have h2:=h.li
 split at h1
 ·omega
 ·rename_i h3
  have:J.li≠ls.length:=fun e=>h3 (h.en0 e);omega
theorem JOk.opened {ls:List (List Ent)}{J:JW}(h:JOk ls J)(hl:J.li<ls.length){n:Nat}(hn:n+J.li<18446744073709551616):(openF n J).length=J.li+1∧∀f∈openF n J,f.length≤40:=by
 unfold openF;have h1:=h.fs;split
 ·rename_i h2
  rw[if_pos h2] at h1;refine⟨by simp;omega,fun f hf=>?_⟩;rcases List.mem_append.1 hf with hf | hf
  ·exact h.nm f hf
  ·rw[List.mem_singleton.1 hf];exact nameT_len _ hn
 ·rename_i h2
  rw[if_neg h2] at h1;exact⟨h1,h.nm⟩
theorem LsOk.at_ {ls:List (List Ent)}(h:LsOk ls){i:Nat}(hi:i<ls.length):OkL (ls.getD i []):=by
 rw[List.getD_eq_getElem?_getD,List.getElem?_eq_getElem hi];exact h.ok _ (List.getElem_mem hi)
theorem writeE_ok {ls:List (List Ent)}{J:JW}(hls:LsOk ls)(h:JOk ls J)(hl:J.li<ls.length){n:Nat}{lv:Int}{s:Dsk}(hn:n+J.li<18446744073709551616) :
  ((writeE n lv (ls.getD J.li []) J s).2.2=0→JOk ls (writeE n lv (ls.getD J.li []) J s).1)∧JFew ls (writeE n lv (ls.getD J.li []) J s).1:=by
 obtain⟨h1,h2⟩:=h.opened hl hn;have h3:=h.few;have h4:=h.ts;have h5:=h.en hl;have hw:JFew ls ⟨J.li,J.en,J.ts,openF n J⟩:=⟨by show (openF n J).length≤_;omega,h2⟩;unfold writeE;split
 ·split
  ·split
   ·rename_i hlt
    have:JOk ls ⟨J.li,J.en+1,J.ts,openF n J⟩:=⟨h.li,fun _=>hlt,fun e=>by have:J.li=ls.length:=e;omega,h4,by show (openF n J).length=_;rw[if_neg (show ¬J.en+1=0 by omega)];exact h1,h2⟩;exact⟨fun _=>this,this.few⟩
   ·split
    ·rename_i hf
     have:JOk ls ⟨J.li+1,0,J.ts++[finJ (runX (n+J.li) lv (ls.getD J.li []))],openF n J⟩:=⟨by show J.li+1≤_;omega,fun (hl2:J.li+1<ls.length)=>(hls.at_ hl2).pos,fun _=>rfl,by simp;omega,by show (openF n J).length=_;rw[if_pos rfl];exact h1,h2⟩;exact⟨fun _=>this,this.few⟩
    ·rename_i hf
     exact⟨fun e=>absurd e hf,⟨hw.fs,hw.nm⟩⟩
  ·rename_i hf
   exact⟨fun e=>absurd e hf,hw⟩
 ·rename_i hf
  exact⟨fun e=>absurd e hf,h3⟩
theorem stepsE_ok {ls:List (List Ent)}(hls:LsOk ls){n:Nat}{lv:Int}(hn:n+ls.length<18446744073709551616):∀(k:Nat) {J:JW} {s:Dsk},JOk ls J→((stepsE n lv ls k J s).2.2=0→JOk ls (stepsE n lv ls k J s).1)∧JFew ls (stepsE n lv ls k J s).1
 | 0,J,s,h=>⟨fun _=>h,h.few⟩
 | k+1,J,s,h=>by
  unfold stepsE;split
  ·exact⟨fun _=>h,h.few⟩
  ·rename_i hne
   have hl:J.li<ls.length:=by have:=h.li;omega
   have hw:=writeE_ok hls h hl (n:=n) (lv:=lv) (s:=s) (by omega);split
   ·rename_i he
    exact stepsE_ok hls hn k (hw.1 he)
   ·exact hw
theorem stepsE_good {n:Nat}{lv:Int}{ls:List (List Ent)}:∀(k:Nat) {J:JW} {s:Dsk} {m:Nat},s.Good m→(stepsE n lv ls k J s).2.1.Good (m+4*k)
 | 0,J,s,m,g=>g
 | k+1,J,s,m,g=>by
  have h1:=writeE_good g n lv (ls.getD J.li []) J;unfold stepsE;split
  ·exact g.more (by omega)
  ·split
   ·exact (stepsE_good k h1).more (by omega)
   ·exact h1.more (by omega)
theorem giveR_good {ls:List (List Ent)}{J:JW}{s:Dsk}{m:Nat}(g:s.Good m)(h:JFew ls J)(why:Nat):(giveR J s why).s.Good (m+ls.length):=by
 have h1:=h.fs;unfold giveR;split
 ·exact g.more (by omega)
 ·split
  ·exact (delsE_good J.fs g).more (by omega)
  ·exact (delsE_good J.fs g).more (by omega)
theorem stepR_good {ls:List (List Ent)}(hls:LsOk ls){n:Nat}{lv:Int}(hn:n+ls.length<18446744073709551616){J:JW}{s:Dsk}{m:Nat}(h:JOk ls J)(g:s.Good m):(stepR n lv ls J s).s.Good (m+40):=by
 have h1:=stepsE_good 8 g (n:=n) (lv:=lv) (ls:=ls) (J:=J);have h2:=(stepsE_ok hls hn 8 h (lv:=lv) (s:=s)).2;have hf:=hls.few;unfold stepR endR;split
 ·split
  ·exact h1.more (by omega)
  ·split
   ·split
    ·exact h1.dirsync.more (by omega)
    ·exact (giveR_good h1.dirsync h2 _).more (by omega)
   ·exact h1.more (by omega)
 ·exact (giveR_good h1 h2 _).more (by omega)
end Go.Proofs.YtlpojfgeocpkeaaGreatDoor
namespace Go.Proofs.YtlpojfgeocpkeaaGreatDoor
open Go.RowKit Go.Sort
set_option linter.unusedVariables false
set_option linter.unusedSimpArgs false
def JRun (K:Nat→Prop)(w:World)(g d:Nat)(s:Dsk)(n:Nat)(lv:Int)(vl:Value)(os:List EL)(J:JW)(done over dead:Bool)(ok:Prop):Prop :=
 ∃F gb vt vf,JAt K F w g d s lv n vl J.li J.en gb vt vf done over dead J.ts J.fs∧(ok→J.en≠0→∀x,os[J.li]? = some x→∃a,gb=some ⟨a,0,none⟩∧TBIn w F a (runX (n+J.li) lv (x.l.take J.en)).1)
theorem JAt.wide {K K' F:Nat→Prop}{w w':World}{g d:Nat}{s:Dsk}{lv:Int}{n:Nat}{vl:Value}{li en:Nat}{gb:Option Addr}{vt vf:Value}{done over dead:Bool}{ts:List TI}{fs:List L}
  (h:JAt K F w g d s lv n vl li en gb vt vf done over dead ts fs) (hb:Below w.heap.size w w') (hK:∀k,K' k→(K k∨w.heap.size≤k)∧k<w'.heap.size):JAt K' F w' g d s lv n vl li en gb vt vf done over dead ts fs:=by
 have h2:=h.below hb;have hz:=hb.size;refine⟨h.dx.aside (KeptBut.of_below hb (S:=fun _=>False)) (fun k q=>q.elim) (fun k q=>?_),fun k q=>?_,h2.fl,h2.box,h2.tabs,h2.files⟩
 ·rcases q with q | q | q
  ·exact (hK k q).1.imp .inl id
  ·exact .inl (.inr (.inl q))
  ·exact .inl (.inr (.inr q))
 ·refine⟨(hK k q).2,fun e=>?_,fun e=>?_⟩
  ·rcases (hK k q).1 with r | r
   ·exact (h.kl k r).2.1 e
   ·have:=h.lt k (.inr (.inl e));omega
  ·rcases (hK k q).1 with r | r
   ·exact (h.kl k r).2.2 e
   ·have:=(h.fl k e).1;omega
section
variable {K K':Nat→Prop}{w w':World}{g d:Nat}{s s':Dsk}{n:Nat}{lv:Int}{vl:Value}{os:List EL}{J:JW}{done over dead:Bool}{ok ok':Prop}
theorem JRun.below (h:JRun K w g d s n lv vl os J done over dead ok)(hb:Below w.heap.size w w'):JRun K w' g d s n lv vl os J done over dead ok∧Keeps K w w':=by
 obtain⟨F,gb,vt,vf,h1,h2⟩:=h;refine⟨⟨F,gb,vt,vf,h1.below hb,fun q q2 x hx=>?_⟩,.of_below hb (fun k q=>(h1.kl k q).1)⟩;obtain⟨a,e,hT⟩:=h2 q q2 x hx;exact⟨a,e,hT.below hb⟩
theorem JRun.lt (h:JRun K w g d s n lv vl os J done over dead ok):∀k,K k→k<w.heap.size:=by
 obtain⟨F,gb,vt,vf,h1,h2⟩:=h;exact fun k q=>(h1.kl k q).1
theorem JRun.glt (h:JRun K w g d s n lv vl os J done over dead ok):g<w.heap.size:=by
 obtain⟨F,gb,vt,vf,h1,h2⟩:=h;exact h1.box.lt
theorem JRun.weak (h:JRun K w g d s n lv vl os J done over dead ok)(hq:ok'→ok):JRun K w g d s n lv vl os J done over dead ok':=by
 obtain⟨F,gb,vt,vf,h1,h2⟩:=h;exact⟨F,gb,vt,vf,h1,fun q=>h2 (hq q)⟩
theorem JRun.wide (h:JRun K w g d s n lv vl os J done over dead ok)(hb:Below w.heap.size w w')(hK:∀k,K' k→(K k∨w.heap.size≤k)∧k<w'.heap.size):JRun K' w' g d s n lv vl os J done over dead ok:=by
 obtain⟨F,gb,vt,vf,h1,h2⟩:=h;refine⟨F,gb,vt,vf,h1.wide hb hK,fun q q2 x hx=>?_⟩;obtain⟨a,e,hT⟩:=h2 q q2 x hx;exact⟨a,e,hT.below hb⟩
theorem JRun.out_ (h:JRun K w g d s n lv vl os J done over dead ok):∃F gb vt vf,JAt K F w g d s lv n vl J.li J.en gb vt vf done over dead J.ts J.fs:=by
 obtain⟨F,gb,vt,vf,h1,h2⟩:=h;exact⟨F,gb,vt,vf,h1⟩
theorem JRun.set_ (h:JRun K w g d s n lv vl os J done over dead ok){o:Nat}{v:Value}{done' over' dead':Bool}(hB:∀dv lv n vl li en gb vt vf,(jobC dv lv n vl li en gb vt vf done over dead).setIfInBounds o v=jobC dv lv n vl li en gb vt vf done' over' dead'):JRun K (w.setCell ⟨g,o,none⟩ v) g d s n lv vl os J done' over' dead' ok∧Keeps K w (w.setCell ⟨g,o,none⟩ v):=by
 obtain⟨F,gb,vt,vf,h1,h2⟩:=h
 obtain⟨h3,k3⟩:=h1.more_ (o:=o) (v:=v) (li':=J.li) (en':=J.en) (gb':=gb) (done':=done') (over':=over') (dead':=dead') (by have:=h1.box.set_ o v;rw[hB] at this;exact this)
 refine⟨⟨F,gb,vt,vf,h3,fun q q2 x hx=>?_⟩,k3⟩;obtain⟨a,e,hT⟩:=h2 q q2 x hx
 exact⟨a,e,hT.kept ((KeptBut.refl w (fun k=>k=g)).then_set rfl) (fun k q e=>(h1.fl k q).2 (.inl e))⟩
theorem jwrite_any {ls:List (List Ent)}{m:Nat}(h:JRun K w g d s n lv vl os J done over dead True)(hk:JK K w vl os)(hls:os.map (·.l)=ls)(hJ:JOk ls J)(hl:J.li<ls.length)(gd:s.Good m)(hm:m<100000)(hn:n≤4294967296) :
  Calls Tryz.prog 49 #[.pointer (some ⟨g,0,none⟩)] w fun e w'=>e=.returned (.int .i64 ((writeE n lv (ls.getD J.li []) J s).2.2:Nat))∧Keeps K w w'∧JRun K w' g d (writeE n lv (ls.getD J.li []) J s).2.1 n lv vl os (writeE n lv (ls.getD J.li []) J s).1 done over dead ((writeE n lv (ls.getD J.li []) J s).2.2=0):=by
 subst hls;rw[List.length_map] at hl;obtain⟨F,gb,vt,vf,h1,h2⟩:=h;have hx:os[J.li]? = some os[J.li]:=List.getElem?_eq_getElem hl
 have hgl:(os.map (·.l)).getD J.li []=os[J.li].l:=by rw[List.getD_eq_getElem?_getD,List.getElem?_map,hx];rfl
 have hen:=hJ.en (by simpa using hl);have hts:=hJ.ts;have hfs:=hJ.few.fs;have hfew:=hk.few;rw[List.length_map] at hfs;rw[hgl] at hen ⊢;obtain⟨li,en,ts,fs⟩:=J
 simp only at *
 have hl':li<os.length:=hl;have hts':ts.length=li:=hts
 have key:∀ {e:Ending} {w':World} {R:JW × Dsk × Nat},(R.2.2=0→R.1.en≠0→R.1.li=li)→(e=.returned (.int .i64 (R.2.2:Nat))∧Keeps K w w'∧∃F' gb' vt' vf',JAt K F' w' g d R.2.1 lv n vl R.1.li R.1.en gb' vt' vf' done over dead R.1.ts R.1.fs ∧
   (R.2.2=0→R.1.en≠0→∃a,gb'=some ⟨a,0,none⟩∧TBIn w' F' a (runX (n+R.1.li) lv (os[li].l.take R.1.en)).1))→e=.returned (.int .i64 (R.2.2:Nat))∧Keeps K w w'∧JRun K w' g d R.2.1 n lv vl os R.1 done over dead (R.2.2=0):=by
  rintro e w' R hR ⟨he,hkk,F',gb',vt',vf',hA,hB⟩;refine⟨he,hkk,F',gb',vt',vf',hA,fun q1 q2 x hx2=>?_⟩;have e1:=hR q1 q2;rw[e1] at hx2;rw[hx] at hx2;injection hx2 with hx2;rw[←hx2];exact hB q1 q2
 have hli:(writeE n lv os[li].l ⟨li,en,ts,fs⟩ s).2.2=0→(writeE n lv os[li].l ⟨li,en,ts,fs⟩ s).1.en≠0→(writeE n lv os[li].l ⟨li,en,ts,fs⟩ s).1.li=li:=by
  unfold writeE;intro q1 q2
  split at q1<;>(try split at q1)<;>(try split at q1)<;>(try split at q1)<;>simp_all
 by_cases he:en=0
 ·exact (write_zero h1 hk hx hen (fun q=>absurd he q) gd hm (by omega) (by omega) hn he).mono fun e w' q=>key hli q
 ·exact (write_one h1 hk hx hen (fun q=>h2 trivial q _ hx) gd hm (by omega) (by omega) hn he).mono fun e w' q=>key hli q
theorem give_run {ls:List (List Ent)}{m:Nat}(h:JRun K w g d s n lv vl os J false false false ok)(hF:JFew ls J)(hfew:ls.length≤6)(gd:s.Good m)(hm:m<100000)(why:Nat) :
  Calls Tryz.prog 48 #[.pointer (some ⟨g,0,none⟩),.int .i64 (why:Nat)] w fun e w'=>e=.returned (.int .i64 ((giveR J s why).e:Nat))∧Keeps K w w'∧JRun K w' g d (giveR J s why).s n lv vl os (giveR J s why).J (giveR J s why).done (giveR J s why).over (giveR J s why).dead False:=by
 obtain⟨F,gb,vt,vf,h1,h2⟩:=h;have hfs:=hF.fs;unfold giveR
 by_cases hw:why=7
 ·subst hw;rw[if_pos rfl];refine (give_down h1.box).mono ?_;rintro e w' ⟨rfl,rfl⟩
  obtain⟨h3,k3⟩:=h1.more_ (o:=11) (v:=.bool true) (li':=J.li) (en':=J.en) (gb':=gb) (done':=false) (over':=false) (dead':=true) (h1.box.set_ 11 (.bool true))
  exact⟨rfl,k3,F,gb,vt,vf,h3,fun q=>q.elim⟩
 ·rw[if_neg hw];refine (give_any h1.jbx gd (by omega) (fun f hf=>by have:=hF.nm f hf;omega) why hw).mono ?_;rintro e w' ⟨rfl,hD,hk,hB⟩;have hkK:Keeps K w w':=hk.less (fun k q=>⟨.inl q,fun e=>(h1.kl k q).2.1 (.inl e)⟩);have hz:=hk.size
  cases hd:(delsE J.fs s).2 with
  | true =>
   rw[hd] at hB;simp only[if_true] at hB ⊢;have hns:∀k,JS g vt vf k∨F k→k≠g→JX K F g vt vf k∧k≠g:=fun k q e=>⟨.inr q,e⟩
   refine⟨by first | rfl | trivial,hkK,F,gb,vt,vf,⟨hD,fun k q=>⟨by have:=(h1.kl k q).1;omega,(h1.kl k q).2⟩,fun k q=>⟨by have:=(h1.fl k q).1;omega,(h1.fl k q).2⟩,hB,hk.own h1.tabs (fun k e=>hns k (.inl (.inr (.inl e))) (fun q=>own_blk_ne h1.tabs h1.box (by decide) (by rw[e,q]))),hk.own h1.files (fun k e=>hns k (.inl (.inr (.inr e))) (fun q=>own_blk_ne h1.files h1.box (by decide) (by rw[e,q])))⟩,fun q=>q.elim⟩
  | false =>
   rw[hd] at hB;simp only[Bool.false_eq_true,if_false] at hB ⊢
   refine⟨by first | rfl | trivial,hkK,fun _=>False,gb,.slice none 0 0,.slice none 0 0,⟨hD.less (fun k _ q=>?_),fun k q=>⟨by have:=(h1.kl k q).1;omega,?_,id⟩,fun k q=>q.elim,hB,World.ownsRow_nil _ _ _ 8,World.ownsRow_nil _ _ _ 1⟩,fun q=>q.elim⟩
   ·rcases q with q | (q | q | q) | q
    ·exact .inl q
    ·exact .inr (.inl (.inl q))
    ·cases q
    ·cases q
    ·exact q.elim
   ·rintro (e | e | e)
    ·exact (h1.kl k q).2.1 (.inl e)
    ·cases e
    ·cases e
end
theorem load_bool {w:World}{g:Nat}{v:Value}(h:w.cell? ⟨g,0,none⟩=some v):(loadVar 4 ⟨g,0,none⟩).run Tryz.prog w=.ok v w:=by
 have hu:=Tryz.underlying4;simp[loadVar,Sem.run_bind,hu,go_sem,h]
theorem load_errno {w:World}{g:Nat}{v:Value}(h:w.cell? ⟨g,0,none⟩=some v):(loadVar 28 ⟨g,0,none⟩).run Tryz.prog w=.ok v w:=by
 have hu:=Tryz.underlying28;simp[loadVar,Sem.run_bind,hu,go_sem,h]
section
variable {K K':Nat→Prop}{w w':World}{g d:Nat}{s s':Dsk}{n:Nat}{lv:Int}{vl:Value}{os:List EL}{J:JW}{done over dead:Bool}{ok ok':Prop}
theorem JRun.setK (h:JRun K w g d s n lv vl os J done over dead ok){b o:Nat}{v:Value}(hb:K b):JRun K (w.setCell ⟨b,o,none⟩ v) g d s n lv vl os J done over dead ok:=by
 obtain⟨F,gb,vt,vf,h1,h2⟩:=h
 have hk:KeptBut w (w.setCell ⟨b,o,none⟩ v) (fun k=>k=b):=(KeptBut.refl _ _).then_set rfl
 have hz:=hk.size;obtain⟨q1,q2,q3⟩:=h1.kl b hb;refine⟨F,gb,vt,vf,⟨h1.dx.beside hk (fun k e=>.inl (.inl (by rw[e];exact hb))),fun k q=>⟨by have:=(h1.kl k q).1;omega,(h1.kl k q).2⟩,fun k q=>⟨by have:=(h1.fl k q).1;omega,(h1.fl k q).2⟩,h1.box.keptB hk (fun e=>q2 (.inl e.symm)),own_kept h1.tabs hk (fun k e r=>q2 (.inr (.inl (by rw[←r];exact e)))),own_kept h1.files hk (fun k e r=>q2 (.inr (.inr (by rw[←r];exact e))))⟩,fun r1 r2 x hx=>?_⟩;obtain⟨a,e,hT⟩:=h2 r1 r2 x hx;exact⟨a,e,hT.kept hk (fun k q r=>q3 (by rw[←r];exact q))⟩
end
theorem leaves_ok {tmps:Array Value}{R:Ending→World→Prop}{w:World}{be bj bd:Nat}{b:Bool}(h2:tmps.getD 2 undef=.pointer (some ⟨bd,0,none⟩))(h3:tmps.getD 3 undef=.pointer (some ⟨be,0,none⟩))(he:w.cell? ⟨be,0,none⟩=some (.int .i64 0))(hd:w.cell? ⟨bd,0,none⟩=some (.bool b))(hR:R (.returned (.tuple #[.bool b,.int .i64 0])) w) :
  Leaves Tryz.prog Tryz.f15 tmps R [{ target:=.fn (.func 47) #[.pointer (some ⟨be,0,none⟩),.pointer (some ⟨bj,0,none⟩),.pointer (some ⟨bd,0,none⟩)],args:=#[] }] .returning w:=by
 refine leaves_cons (f:=47) (args:=#[.pointer (some ⟨be,0,none⟩),.pointer (some ⟨bj,0,none⟩),.pointer (some ⟨bd,0,none⟩)]) (by simp) (by simp[go_sem]) ?_;refine (stp1_ok he).mono ?_;rintro e u' w'' ⟨rfl,rfl,rfl⟩;exact⟨_,results_two_cells rfl _ _ bd be _ _ h2 h3 (load_bool hd) (load_errno he),hR⟩
theorem leaves_err {tmps:Array Value}{R:Ending→World→Prop}{w:World}{be bj bd g why:Nat}{P:Nat→World→Prop}(h2:tmps.getD 2 undef=.pointer (some ⟨bd,0,none⟩))(h3:tmps.getD 3 undef=.pointer (some ⟨be,0,none⟩))(hw:why≠0)(he:w.cell? ⟨be,0,none⟩=some (.int .i64 (why:Nat)))(hj:w.cell? ⟨bj,0,none⟩=some (.pointer (some ⟨g,0,none⟩)))
  (hg:Calls Tryz.prog 48 #[.pointer (some ⟨g,0,none⟩),.int .i64 (why:Nat)] w fun e w'=>∃r:Nat,e=.returned (.int .i64 (r:Nat))∧P r w')
  (hP:∀r w',P r w'→(∃c,Blk w' be 28 #[c])∧∃c,Blk w' bd 4 #[c]) (hne:be≠bd)
  (hR:∀r w1,P r w1→R (.returned (.tuple #[.bool false,.int .i64 (r:Nat)])) ((w1.setCell ⟨bd,0,none⟩ (.bool false)).setCell ⟨be,0,none⟩ (.int .i64 (r:Nat)))) :
  Leaves Tryz.prog Tryz.f15 tmps R [{ target:=.fn (.func 47) #[.pointer (some ⟨be,0,none⟩),.pointer (some ⟨bj,0,none⟩),.pointer (some ⟨bd,0,none⟩)],args:=#[] }] .returning w:=by
 refine leaves_cons (f:=47) (args:=#[.pointer (some ⟨be,0,none⟩),.pointer (some ⟨bj,0,none⟩),.pointer (some ⟨bd,0,none⟩)]) (by simp) (by simp[go_sem]) ?_;refine (stp1_err hw he hj hg (fun r w' hp=>?_) hne).mono ?_
 ·obtain⟨⟨c1,b1⟩,c2,b2⟩:=hP r w' hp;exact⟨⟨_,b1.cell 0⟩,b1.frozen 0,⟨_,b2.cell 0⟩,b2.frozen 0⟩
 ·rintro e u' w'' ⟨rfl,rfl,r,w1,hp,rfl⟩;obtain⟨⟨c1,b1⟩,c2,b2⟩:=hP r w1 hp;have b3:Blk (w1.setCell ⟨bd,0,none⟩ (.bool false)) bd 4 #[.bool false]:=b2.set_ 0 (.bool false);have b4:Blk (w1.setCell ⟨bd,0,none⟩ (.bool false)) be 28 #[c1]:=b1.far hne _;have b5:Blk ((w1.setCell ⟨bd,0,none⟩ (.bool false)).setCell ⟨be,0,none⟩ (.int .i64 (r:Nat))) be 28 #[.int .i64 (r:Nat)]:=b4.set_ 0 (.int .i64 (r:Nat));have b6:Blk ((w1.setCell ⟨bd,0,none⟩ (.bool false)).setCell ⟨be,0,none⟩ (.int .i64 (r:Nat))) bd 4 #[.bool false]:=b3.far (fun e=>hne e.symm) _;exact⟨_,results_two_cells rfl _ _ bd be _ _ h2 h3 (load_bool (b6.cell 0)) (load_errno (b5.cell 0)),hR r w1 hp⟩
end Go.Proofs.YtlpojfgeocpkeaaGreatDoor
namespace Go.Proofs.YtlpojfgeocpkeaaGreatDoor
set_option linter.unusedVariables false
theorem endR_more {ls:List (List Ent)}{J:JW}{s:Dsk}(h:J.li<ls.length):endR ls (J,s,0)=⟨J,s,false,0,false,false,false⟩:=by
 unfold endR;rw[if_pos rfl,if_pos h]
theorem endR_none {ls:List (List Ent)}{J:JW}{s:Dsk}(h:¬J.li<ls.length)(h2:¬0<ls.length):endR ls (J,s,0)=⟨J,s,true,0,true,false,false⟩:=by
 unfold endR;rw[if_pos rfl,if_neg h,if_neg h2]
theorem endR_done {ls:List (List Ent)}{J:JW}{s:Dsk}(h:¬J.li<ls.length)(h2:0<ls.length)(he:s.dirsync.2=0):endR ls (J,s,0)=⟨J,s.dirsync.1,true,0,true,false,false⟩:=by
 unfold endR;rw[if_pos rfl,if_neg h,if_pos h2,if_pos he]
theorem endR_give {ls:List (List Ent)}{J:JW}{s:Dsk}(h:¬J.li<ls.length)(h2:0<ls.length)(he:s.dirsync.2≠0):endR ls (J,s,0)=giveR J s.dirsync.1 s.dirsync.2:=by
 unfold endR;rw[if_pos rfl,if_neg h,if_pos h2,if_neg he]
theorem endR_err {ls:List (List Ent)}{J:JW}{s:Dsk}{e:Nat}(h:e≠0):endR ls (J,s,e)=giveR J s e:=by
 unfold endR;rw[if_neg h]
end Go.Proofs.YtlpojfgeocpkeaaGreatDoor
namespace Go.Proofs.YtlpojfgeocpkeaaGreatDoor
open Go.RowKit Go.Sort
set_option linter.unusedVariables false
set_option linter.unusedSimpArgs false
theorem JK.mono {K K':Nat→Prop}{w:World}{vl:Value}{os:List EL}(h:JK K w vl os)(hK:∀k,K k→K' k):JK K' w vl os :=
 ⟨h.rows,fun k q=>hK k (h.in1 k q),fun x hx k q=>hK k (h.in2 x hx k q),h.ok,h.few,h.gl,h.five,fun k q=>hK k (h.low k q),h.size⟩
theorem giveR_gone (J:JW)(s:Dsk)(why:Nat):¬((giveR J s why).over=false∧(giveR J s why).dead=false):=by
 unfold giveR;split
 ·simp
 ·split<;>simp
theorem giveR_ret (J:JW)(s:Dsk)(why:Nat):(giveR J s why).ret=false:=by
 unfold giveR;split
 ·rfl
 ·split<;>rfl
def DEF (B:Nat):List Deferred:=[{ target:=.fn (.func 47) #[.pointer (some ⟨B+1+1,0,none⟩),.pointer (some ⟨B,0,none⟩),.pointer (some ⟨B+1,0,none⟩)],args:=#[] }]
section
variable {K KK:Nat→Prop}{w0 w:World}{B g d:Nat}{s:Dsk}{n:Nat}{lv:Int}{vl:Value}{os:List EL}{J:JW}{ls:List (List Ent)}{m why:Nat}{ok:Prop}{tmps:Array Value}{done:Bool}
theorem step_err (hKK:∀k,K k→KK k)(h1:KK (B+1))(h2:KK (B+1+1))(hn1:¬K (B+1))(hn2:¬K (B+1+1))(hk:Keeps K w0 w)(hJ:JRun KK w g d s n lv vl os J false false false ok)(hF:JFew ls J)(hfew:ls.length≤6)(gd:s.Good m)(hm:m<100000)(hw:why≠0)
  (be:Blk w (B+1+1) 28 #[.int .i64 (why:Nat)]) (bj:Blk w B 32 #[.pointer (some ⟨g,0,none⟩)]) {c:Value} (bd:Blk w (B+1) 4 #[c]) (t2:tmps.getD 2 undef=.pointer (some ⟨B+1,0,none⟩)) (t3:tmps.getD 3 undef=.pointer (some ⟨B+1+1,0,none⟩)) :
  Leaves Tryz.prog Tryz.f15 tmps (fun e w'=>e=.returned (.tuple #[.bool (giveR J s why).ret,.int .i64 ((giveR J s why).e:Nat)])∧Keeps K w0 w'∧JRun K w' g d (giveR J s why).s n lv vl os (giveR J s why).J (giveR J s why).done (giveR J s why).over (giveR J s why).dead ((giveR J s why).over=false∧(giveR J s why).dead=false)) (DEF B) .returning w:=by
 refine leaves_err (P:=fun r w'=>r=(giveR J s why).e∧Keeps KK w w'∧JRun KK w' g d (giveR J s why).s n lv vl os (giveR J s why).J (giveR J s why).done (giveR J s why).over (giveR J s why).dead False) t2 t3 hw (be.cell 0) (bj.cell 0) ((give_run hJ hF hfew gd hm why).mono fun e w' ⟨q1,q2,q3⟩=>⟨_,q1,rfl,q2,q3⟩) ?_ (by omega) ?_
 ·rintro r w' ⟨rfl,q2,q3⟩;exact⟨⟨_,q2.blk be h2⟩,_,q2.blk bd h1⟩
 ·rintro r w1 ⟨rfl,q2,q3⟩;rw[giveR_ret]
  refine⟨rfl,((hk.trans q2 hKK).then_set hn1).then_set hn2,?_⟩
  have hl:=q3.lt;exact (((q3.setK h1).setK h2).wide (Below.refl _ _) (fun k q=>⟨.inl (hKK k q),by have:=hl k (hKK k q);simpa[World.setCell] using this⟩)).weak (fun q=>(giveR_gone J s why q).elim)
theorem step_ok (hKK:∀k,K k→KK k)(hk:Keeps K w0 w)(hJ:JRun KK w g d s n lv vl os J done false false True)
  (be:Blk w (B+1+1) 28 #[.int .i64 0]) {b:Bool} (bd:Blk w (B+1) 4 #[.bool b]) (t2:tmps.getD 2 undef=.pointer (some ⟨B+1,0,none⟩)) (t3:tmps.getD 3 undef=.pointer (some ⟨B+1+1,0,none⟩)) :
  Leaves Tryz.prog Tryz.f15 tmps (fun e w'=>e=.returned (.tuple #[.bool b,.int .i64 0])∧Keeps K w0 w'∧JRun K w' g d s n lv vl os J done false false (false=false∧false=false)) (DEF B) .returning w:=by
 refine leaves_ok t2 t3 (be.cell 0) (bd.cell 0) ⟨rfl,hk,?_⟩;have hl:=hJ.lt;exact (hJ.wide (Below.refl _ _) (fun k q=>⟨.inl (hKK k q),hl k (hKK k q)⟩)).weak (fun _=>trivial)
end
end Go.Proofs.YtlpojfgeocpkeaaGreatDoor
