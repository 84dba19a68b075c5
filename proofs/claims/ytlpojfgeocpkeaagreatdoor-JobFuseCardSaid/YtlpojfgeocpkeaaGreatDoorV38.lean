/- A law's row, whatever its parameters: what a walk that leaves old memory as it was gives, and how the row closes. A row whose items are read one by one, opened. A crash's choices in memory below a mark. A crash's choices that came in, opened. A change's row whose call may read package variables: what the world is shaped like, too. Chapter 17's rows: what the program's variables hold; lists that came in, opened. Chapter 17's rows: a crash's choices that came in, opened. Package job, plain: what each operation on a job's files keeps, a step keeps; which names there are. JobFuse, JobLasts: a disk with a file of another one's, synced; a job beside it, the power going or not. Plain. A job goes on till it ends; a job whose disk's fuse is set, and whose power comes back. -/
import Derived.Test.YtlpojfgeocpkeaaGreatDoorRows
import Derived.WalkKit
import Derived.ProofKit
import Derived.OpenShut
import Derived.JoinedCond
import Derived.Carry
import Derived.Lib.SmallJoins
import Derived.Deep.Slices
import Derived.Deep.Fields
import Derived.ChangeSame
import Derived.Test.YtlpojfgeocpkeaaGreatDoorV01
import Derived.LaidMore
import Derived.Lay
import Derived.Stop.Joined
import Derived.Test.YtlpojfgeocpkeaaGreatDoorV07
import Derived.Handed
import Derived.HandedShaped
import Derived.Test.YtlpojfgeocpkeaaGreatDoorV35
import Derived.Lib.LaidTab
import Derived.Stop.LaidErr
import Derived.SevenTiedAt
import Derived.Test.YtlpojfgeocpkeaaGreatDoorV36
namespace Go.Proofs.YtlpojfgeocpkeaaGreatDoor
open Go.ChangeShapes Go.WideShapes Go.ChangeAt Go.RowKit Go.Joins
set_option linter.unusedVariables false
theorem Tryzown:ownKnob Tryz.prog.godebug=none:=by kernel_rfl
theorem Tryzlaid:laidOutB Tryz.prog=true:=by kernel_rfl
section
variable {H:Type}{enc:TypeId × Value→H}{P:Program}
theorem trodAll_below (hl:laidOutB P=true){W W':World}(hb:Below W.heap.size W W'):∀(ts:List TypeId) (vs:List Value) (ds:List (DataW H)) (ps:List MemPlace),
  (∀t∈ts,P.readableRec t=true∧t<P.types.size)→DataW.TrodAll enc P W 0 (fun _=>true) true ts vs ds ps→(∀x∈ps,x.block<W.heap.size) →
  DataW.TrodAll enc P W' 0 (fun b=>decide (b<W.heap.size)) true ts vs ds ps:=by
 intro ts
 induction ts with
 | nil =>
  intro vs ds ps _ h _
  cases vs<;>cases ds<;>first | exact h | exact h.elim
 | cons t ts ih =>
  intro vs ds ps ht h hx
  cases vs with
  | nil=>exact h.elim
  | cons v vs =>
   cases ds with
   | nil=>exact h.elim
   | cons d ds =>
    obtain⟨p,q,hd,hr,rfl⟩:=h;have h0:=ht t (List.mem_cons_self ..);exact⟨p,q,Below.trod hl h0.1 h0.2 hd hb (fun x hm=>hx x (List.mem_append_left _ hm)),ih vs ds q (fun t' hm=>ht t' (List.mem_cons_of_mem _ hm)) hr (fun x hm=>hx x (List.mem_append_right _ hm)),rfl⟩
theorem law_post (hl:laidOutB P=true){f:Func}{s:ChangeSpec}{W W':World}{args:Array Value}{ds gs:List (DataW H)}{before:List MemPlace}{tb:TypeId}
  (hbool:P.underlying tb=some .bool)
  (hW:DataW.Whole enc P f.params.toList s.vars false W args.toList ds gs before) (hv:s.vars=[]) (hr:f.resultTypes=#[tb])
  (hread0:(f.params.toList.all fun t=>P.readableRec t&&decide (t<P.types.size))=true)
  (hfn:s.fn H (ds++gs)={ results:=[.lit (.bool true)],args:=ds }) (hb:Below W.heap.size W W') :
  s.post enc P f false true false false W args (.bool true) W':=by
 have hread:∀t∈f.params.toList,P.readableRec t=true∧t<P.types.size:=fun t ht=>by simpa using List.all_eq_true.1 hread0 t ht
 have hlt:=hW.lt;obtain⟨p,q,hA,hV,hpq,hz,hnd⟩:=hW;rw[hv] at hV
 cases gs with
 | cons _ _=>exact hV.elim
 | nil =>
  have hq:q=[]:=hV;subst hq;refine⟨ds,[],before,[],p,[],⟨p,[],hA,by rw[hv];exact rfl,hpq,hz,hnd⟩,?_,?_,?_,?_,fun h=>by cases h⟩
  ·rw[hfn,hr];exact trodAll_mk1 (shut_bool hbool true)
  ·rw[hfn];exact trodAll_below hl hb _ _ _ _ hread hA (fun x hx=>by simpa using hlt x (by rw[hpq];exact List.mem_append_left _ hx))
  ·rw[hfn,hv];exact rfl
  ·exact hb.frame _
end
end Go.Proofs.YtlpojfgeocpkeaaGreatDoor
namespace Go.Proofs.YtlpojfgeocpkeaaGreatDoor
open Go.ChangeShapes Go.WideShapes Go.ChangeAt Go.RowKit Go.Joins Go.Deep
open Go.ChangeMaps (open_string)
set_option linter.unusedVariables false
set_option linter.unusedSimpArgs false
theorem plain_of_cell {w:World}{a:Addr}{v:Value}(h:w.cell? a=some v):a=⟨a.block,a.off,none⟩:=by
 obtain⟨b,o,s⟩:=a
 cases s with
 | none=>rfl
 | some s =>
  unfold World.cell? at h
  split at h<;>simp at h
theorem list_of {T:Type}{P:Nat→T→Prop}:∀(n:Nat),(∀i,i<n→∃x,P i x)→∃l:List T,l.length=n∧∀i x,l[i]? = some x→P i x
 | 0,_=>⟨[],rfl,fun i x h=>by simp at h⟩
 | n+1,h=>by
  obtain⟨l,hl,hp⟩:=list_of n (fun i hi=>h i (by omega));obtain⟨x,hx⟩:=h n (by omega);refine⟨l++[x],by simp[hl],fun i y hy=>?_⟩
  by_cases hi:i<l.length
  ·rw[List.getElem?_append_left hi] at hy;exact hp i y hy
  ·rw[List.getElem?_append_right (by omega)] at hy
   have:i-l.length=0:=by
    rcases Nat.eq_zero_or_pos (i-l.length) with h0 | h0
    ·exact h0
    ·rw[List.getElem?_eq_none (by simp;omega)] at hy;cases hy
   rw[this] at hy;simp at hy;subst hy
   have:i=n:=by omega
   subst this;exact hx
theorem mem_at {T:Type}{P:Nat→T→Prop}{l:List T}(h:∀i x,l[i]? = some x→P i x){x:T}(hx:x∈l):∃i,P i x:=by
 obtain⟨i,hi,rfl⟩:=List.mem_iff_getElem.1 hx;exact⟨i,h i _ (List.getElem?_eq_getElem hi)⟩
theorem flat_at {T:Type}{f:T→List Value}{m:Nat}(hm:0<m)(hf:∀x,(f x).length=m):∀(l:List T) (j:Nat) (u:Value),(l.flatMap f)[j]? = some u→∃x,l[j / m]? = some x∧(f x)[j % m]? = some u
 | [],j,u,h=>by simp at h
 | a::l,j,u,h=>by
  rw[List.flatMap_cons] at h
  by_cases hj:j<m
  ·rw[List.getElem?_append_left (by rw[hf];exact hj)] at h;exact⟨a,by rw[Nat.div_eq_of_lt hj];rfl,by rw[Nat.mod_eq_of_lt hj];exact h⟩
  ·rw[List.getElem?_append_right (by rw[hf];omega),hf] at h;obtain⟨x,h1,h2⟩:=flat_at hm hf l (j-m) u h;refine⟨x,?_,?_⟩
   ·have:j / m=(j-m) / m+1:=by rw[Nat.div_eq_sub_div hm (by omega)]
    rw[this]
    simpa using h1
   ·have:j % m=(j-m) % m:=Nat.mod_eq_sub_mod (by omega);rw[this];exact h2
theorem flat_len {T:Type}{f:T→List Value}{m:Nat}(hf:∀x,(f x).length=m)(l:List T):(l.flatMap f).length=l.length*m:=by
 induction l with
 | nil=>simp
 | cons a l ih=>rw[List.flatMap_cons,List.length_append,hf,ih,List.length_cons,Nat.add_mul];omega
theorem k9:Tryz.prog.cellsOf 9=1:=by kernel_rfl
section
variable {H:Type}{enc:TypeId × Value→H}{W:World}
theorem row_open {T:Type}{t e m n:Nat}{v:Value}{y:DataW H × List MemPlace}(ht:Tryz.prog.underlying t=some (.slice e))(hC:Tryz.prog.cellsOf e=m)(hm:0<m)(f:T→List Value)(hf:∀x,(f x).length=m)(Q:T→Prop)
  (hone:∀(n:Nat) (cs:List Value) (z:DataW H × List MemPlace),(∀x∈z.2,x.block<W.heap.size)→DataW.trod enc Tryz.prog W 0 (fun _=>true) true n e cs=some z→∃x,cs=f x∧Q x)
  (h:DataW.trod enc Tryz.prog W 0 (fun _=>true) true n t [v]=some y) (hp:∀x∈y.2,x.block<W.heap.size):∃(A:Option Addr) (l:List T) (cap:Nat),v=.slice A l.length cap∧Reads W W.heap.size m A l.length (l.flatMap f)∧l.length≤maxLen∧∀x∈l,Q x:=by
 rcases open_slice ht h with⟨hcs,hx⟩ | ⟨a,len,cap,mm,n',D,Pl,hcs,hb,hl,hcm,hmm,hx,hi⟩
 ·simp at hcs;subst hcs;exact⟨none,[],0,rfl,Reads.none_,by simp,by simp⟩
 ·simp at hcs;subst hcs;simp at hmm;subst hmm
  by_cases hn0:len=0
  ·subst hn0;exact⟨some a,[],mm,rfl,⟨by simp,fun h=>absurd h (by simp)⟩,by simp,by simp⟩
  have hall:∀k,k<len→∃x,Q x∧∀j u,(f x)[j]? = some u→W.cell? (a.add (k*m+j))=some u:=by
   intro k hk;obtain⟨cs',hc,ht'⟩:=hi k (by omega);rw[hC] at hc;obtain⟨_,hcl,hat⟩:=World.cells?_some hc
   obtain⟨x,rfl,hq⟩:=hone n' cs' _ (fun z hz=>hp z (by
    rw[hx]
    exact List.mem_append_right _ (List.mem_flatMap.2 ⟨k,List.mem_range.2 (by omega),hz⟩))) ht'
   refine⟨x,hq,fun j u hu=>?_⟩
   have hj:j<m:=by rw[←hf x];exact (List.getElem?_eq_some_iff.1 hu).1
   have:=hat j hj;rw[Go.Deep.add_add] at this;rw[this,hu]
  obtain⟨x0,_,h0⟩:=hall 0 (by omega);have hf0:(f x0)[0]? = some ((f x0)[0]'(by rw[hf];exact hm)):=List.getElem?_eq_getElem (by rw[hf];exact hm);have hc0:=h0 0 _ hf0
  have e0:a.add (0*m+0)=a:=by unfold Addr.add;simp
  rw[e0] at hc0;have hpl:=plain_of_cell hc0
  have hblk:a.block<W.heap.size:=hp (.cell a.block a.off) (by
   rw[hx];refine List.mem_append_left _ ?_;rw[hpl,hC];have:0<mm*m:=Nat.mul_pos (by omega) hm;simp[MemPlace.row]
   omega)
  obtain⟨l,hl2,hP⟩:=list_of len hall;refine⟨some a,l,mm,by rw[hl2],⟨flat_len hf l,fun hn=>⟨a,rfl,hblk,fun j u hu=>?_⟩⟩,by rw[hl2];omega,fun x hx=>?_⟩
  ·obtain⟨x,h1,h2⟩:=flat_at hm hf l j u hu;have:=(hP _ _ h1).2 _ _ h2;rw[show j / m*m+j % m=j from by rw[Nat.mul_comm];exact Nat.div_add_mod j m] at this;exact this
  ·obtain⟨i,hq,_⟩:=mem_at hP hx;exact hq
end
end Go.Proofs.YtlpojfgeocpkeaaGreatDoor
namespace Go.Proofs.YtlpojfgeocpkeaaGreatDoor
open Go.RowKit
set_option linter.unusedVariables false
set_option linter.unusedSimpArgs false
structure CraR (B:Nat)(w:World)(c:Cra)(KA PA:Option Addr):Prop where
 keep:Reads w B 1 KA c.keep.length (keepV c.keep)
 spoil:Reads w B 2 PA c.spoil.length (spoilV c.spoil)
 kb:∀x∈c.keep,-9223372036854775808≤x∧x≤9223372036854775807
 pb:∀p∈c.spoil,-9223372036854775808≤p.1∧p.1≤9223372036854775807∧p.2<4294967296
theorem CraR.below {B C:Nat}{w w':World}{c:Cra}{KA PA:Option Addr}(h:CraR B w c KA PA)(hb:Below C w w')(hC:B≤C):CraR B w' c KA PA :=
 ⟨h.keep.below (hb.mono hC),h.spoil.below (hb.mono hC),h.kb,h.pb⟩
theorem CraR.at_ {B:Nat}{w:World}{c:Cra}{KA PA:Option Addr}(h:CraR B w c KA PA)(hB:B≤w.heap.size)(hk:c.keep.length≤9223372036854775807)(hp:c.spoil.length≤9223372036854775807):CraAt w c KA PA:=⟨h.keep.more hB,h.spoil.more hB,hk,hp,h.kb,h.pb⟩
theorem CraR.under {B:Nat}{w:World}{c:Cra}{KA PA:Option Addr}(h:CraR B w c KA PA){C:Nat}(hC:B≤C):∀ad,(c.keep≠[]∧KA=some ad)∨(c.spoil≠[]∧PA=some ad)→ad.block<C:=by
 intro ad e;rcases e with⟨hne,e⟩ | ⟨hne,e⟩
 ·obtain⟨ad',e',h',_⟩:=h.keep.2 (by cases hcs:c.keep with | nil=>exact absurd hcs hne | cons _ _=>simp);rw[e] at e';injection e' with e';rw[e'];omega
 ·obtain⟨ad',e',h',_⟩:=h.spoil.2 (by cases hcs:c.spoil with | nil=>exact absurd hcs hne | cons _ _=>simp);rw[e] at e';injection e' with e';rw[e'];omega
end Go.Proofs.YtlpojfgeocpkeaaGreatDoor
namespace Go.Proofs.YtlpojfgeocpkeaaGreatDoor
open Go.ChangeShapes Go.WideShapes Go.ChangeAt Go.RowKit Go.Joins Go.Deep
open Go.ChangeMaps (open_string)
set_option linter.unusedVariables false
set_option linter.unusedSimpArgs false
theorem k3:Tryz.prog.cellsOf 3=1:=by kernel_rfl
theorem k86:Tryz.prog.cellsOf 43=1:=by kernel_rfl
theorem k23:Tryz.prog.cellsOf 55=1:=by kernel_rfl
theorem k24:Tryz.prog.cellsOf 56=1:=by kernel_rfl
theorem k5:Tryz.prog.cellsOf 5=1:=by kernel_rfl
theorem keepV_flat:∀l:List Int,l.flatMap (fun x=>[Value.int .i64 x])=keepV l
 | []=>rfl
 | a::l=>by
  rw[List.flatMap_cons,keepV_flat l];rfl
section
variable {H:Type}{enc:TypeId × Value→H}{W:World}
set_option maxRecDepth 100000 in
theorem ints_open {n:Nat}{v:Value}{y:DataW H × List MemPlace}(h:DataW.trod enc Tryz.prog W 0 (fun _=>true) true n 55 [v]=some y)(hp:∀x∈y.2,x.block<W.heap.size) :
  ∃(A:Option Addr) (l:List Int) (cap:Nat),v=.slice A l.length cap∧Reads W W.heap.size 1 A l.length (keepV l)∧l.length≤maxLen∧∀x∈l,-9223372036854775808≤x∧x≤9223372036854775807:=by
 obtain⟨A,l,cap,e1,e2,e3,e4⟩:=row_open (T:=Int) Tryz.underlying55 (by kernel_rfl:Tryz.prog.cellsOf 3=1) (by omega) (fun x=>[.int .i64 x]) (fun _=>rfl) (fun x=>-9223372036854775808≤x∧x≤9223372036854775807) (fun n cs z _ hz=>by
  obtain⟨x,e,_,hw⟩:=DataW.trod_int Tryz.underlying3 hz
  exact⟨x,e,bounds_i64 hw⟩) h hp
 have hk:=keepV_flat l;exact⟨A,l,cap,e1,by rw[←hk];exact e2,e3,e4⟩
set_option maxRecDepth 100000 in
theorem spoils_open {n:Nat}{v:Value}{y:DataW H × List MemPlace}(h:DataW.trod enc Tryz.prog W 0 (fun _=>true) true n 56 [v]=some y)(hp:∀x∈y.2,x.block<W.heap.size) :
  ∃(A:Option Addr) (l:List (Int × Nat)) (cap:Nat),v=.slice A l.length cap∧Reads W W.heap.size 2 A l.length (spoilV l)∧l.length≤maxLen∧∀p∈l,-9223372036854775808≤p.1∧p.1≤9223372036854775807∧p.2<4294967296:=by
 refine row_open (T:=Int × Nat) Tryz.underlying56 (by kernel_rfl:Tryz.prog.cellsOf 146=2) (by omega) (fun p=>[.int .i64 p.1,.int .u32 (p.2:Nat)]) (fun _=>rfl) (fun p=>-9223372036854775808≤p.1∧p.1≤9223372036854775807∧p.2<4294967296) (fun n cs z _ hz=>?_) h hp;obtain⟨y0,y1,n',_,hl,h0,h1⟩:=trod_struct2 Tryz.underlying146 hz;rw[(by kernel_rfl:Tryz.prog.cellsOf 146=2)] at hl
 match cs,hl with
 | [c0,c1],_ =>
  replace h0:DataW.trod enc Tryz.prog W 0 (fun _=>true) true n' 3 [c0]=some y0:=by
   have h:=h0
   try dsimp only at h
   rw[k3] at h;exact h
  replace h1:DataW.trod enc Tryz.prog W 0 (fun _=>true) true n' 43 [c1]=some y1:=by
   have h:=h1
   try dsimp only at h
   rw[k86] at h;exact h
  obtain⟨x0,e0,_,w0⟩:=DataW.trod_int Tryz.underlying3 h0;obtain⟨x1,e1,_,w1⟩:=DataW.trod_int Tryz.underlying43 h1;simp at e0 e1;subst e0 e1;have b0:=bounds_i64 w0;have b1:=bounds_u32 w1;refine⟨(x0,x1.toNat),?_,b0.1,b0.2,by simp only[];omega⟩;simp only[];rw[show ((x1.toNat:Nat):Int)=x1 from by omega]
set_option maxRecDepth 100000 in
theorem cra_open {n:Nat}{cs:List Value}{y:DataW H × List MemPlace}(h:DataW.trod enc Tryz.prog W 0 (fun _=>true) true n 58 cs=some y)(hp:∀x∈y.2,x.block<W.heap.size) :
  ∃(c:Cra) (KA:Option Addr) (kc:Nat) (PA:Option Addr) (pc:Nat),cs=[.int .i64 c.names,.slice KA c.keep.length kc,.slice PA c.spoil.length pc]∧CraR W.heap.size W c KA PA∧c.keep.length≤maxLen∧c.spoil.length≤maxLen:=by
 obtain⟨y0,y1,y2,n',hx,hl,h0,h1,h2⟩:=trod_struct3 Tryz.underlying58 h;rw[(by kernel_rfl:Tryz.prog.cellsOf 58=3)] at hl
 match cs,hl with
 | [c0,c1,c2],_ =>
  replace h0:DataW.trod enc Tryz.prog W 0 (fun _=>true) true n' 3 [c0]=some y0:=by
   have h:=h0
   try dsimp only at h
   rw[k3] at h;exact h
  replace h1:DataW.trod enc Tryz.prog W 0 (fun _=>true) true n' 55 [c1]=some y1:=by
   have h:=h1
   try dsimp only at h
   rw[k23] at h;exact h
  replace h2:DataW.trod enc Tryz.prog W 0 (fun _=>true) true n' 56 [c2]=some y2:=by
   have h:=h2
   try dsimp only at h
   rw[k24] at h;exact h
  obtain⟨x0,e0,_,w0⟩:=DataW.trod_int Tryz.underlying3 h0;simp at e0;subst e0;rw[hx] at hp;obtain⟨KA,kl,kc,rfl,r1,l1,b1⟩:=ints_open h1 (fun x hx=>hp x (by simp;exact .inr (.inl hx)));obtain⟨PA,pl,pc,rfl,r2,l2,b2⟩:=spoils_open h2 (fun x hx=>hp x (by simp;exact .inr (.inr hx)));exact⟨⟨x0,kl,pl⟩,KA,kc,PA,pc,rfl,⟨r1,r2,b1,b2⟩,l1,l2⟩
end
end Go.Proofs.YtlpojfgeocpkeaaGreatDoor
namespace Go.Proofs.YtlpojfgeocpkeaaGreatDoor
open Go
set_option linter.unusedVariables false
theorem rih_and_shaped {H:Type}{enc:TypeId × Value→H}{a:Assume}{C:Checked}{os:Os}{f:FuncId}{fn:Func}{s:ChangeSpec}{conds:List PathCond}{apart fresh handsOn again:Bool}{X:World→Array Value→Prop}
  (hX:∀(w w':World) (args:Array Value),w.heap=w'.heap→X w args→X w' args)
  (own:ownKnob C.prog.godebug=none) (started:os.Started) (noInit:C.prog.inits.idxOf? f=none) (hfn:C.prog.funcs[f]? = some fn)
  (witness:∃(w:World) (tape:Tape) (i:Input),w.os=os∧(w.forCall tape i).Shaped C.prog∧i.vars=[]∧Input.okWide C.prog (w.forCall tape i) .any w.heap.size f i ∧
   ((s.pre enc C.prog fn conds apart (w.forCall tape i).memory i.args∧X (w.forCall tape i).memory i.args)∧sizedMet enc C.prog fn (OpenSpec.ofChange s) apart (w.forCall tape i).memory i.args)∧a.holds C.prog (lone (Frame.enter C.prog f i.args .normal) [] (w.forCall tape i)))
  (contract:∀(W:World) (base:Nat) (args:Array Value) (ds gs:List (DataW H)) (before:List MemPlace),
   (∀(j:Nat) t v,fn.params[j]? = some t→args[j]? = some v→Value.okWide C.prog W .any base t v) →
   DataW.Whole enc C.prog fn.params.toList s.vars apart W args.toList ds gs before →
   conds.all (PathCond.test C.prog ⟨fn.params.toList,ds,s.plain.varTypes C.prog,gs⟩)=true →
   (DataW.weightsEach C.prog (fn.params.toList++s.plain.varTypes C.prog) (ds++gs)).all (·≤reachBytes)=true→X W args →
   W.ShapedOpen C.prog →
   a.holds C.prog (lone (Frame.enter C.prog f args .normal) [] W) →
   Calls C.prog f args W fun e W'=>∃v,e=.returned v∧s.post enc C.prog fn apart fresh handsOn again W args v W') :
  ReturnsInHanded a C os f .any (fun w args=>(s.pre enc C.prog fn conds apart w args∧X w args)∧sizedMet enc C.prog fn (OpenSpec.ofChange s) apart w args) (s.post enc C.prog fn apart fresh handsOn again):=by
 refine returnsInHanded_of_calls own started noInit witness ?_;intro w tape i _ hsh _ hok hpre hholds;obtain⟨_,_,_,fn',hfn',_,_,_,_,hval⟩:=hok;obtain rfl:fn'=fn:=Option.some.inj (hfn'.symm.trans hfn);obtain⟨⟨⟨ds,gs,before,hw,hc⟩,hx⟩,hz⟩:=hpre;refine (contract (w.forCall tape i) w.heap.size i.args ds gs before hval (DataW.Whole.of_heap (w':=w.forCall tape i) (by rfl) hw) hc (hz.weights hw) (hX _ _ _ (by rfl) hx) hsh hholds).mono fun e W' ⟨v,he,hp⟩=>?_;subst he;exact ChangeSpec.post_blind hp
end Go.Proofs.YtlpojfgeocpkeaaGreatDoor
namespace Go.Proofs.YtlpojfgeocpkeaaGreatDoor
open Go.ChangeShapes Go.WideShapes Go.ChangeAt Go.RowKit Go.Joins Go.Deep Go.Lib
open Go.ChangeMaps (open_string)
set_option linter.unusedVariables false
set_option linter.unusedSimpArgs false
theorem crcT_litsJ:(List.range 16).map (fun i=>(DataW.lit (.int .u32 (crcT i:Nat)):DataW Unit))=match (Rows.laid_copyhold_cell_table:DataW Unit) with
 | .agg l=>l
 | _=>[]:=rfl
set_option maxRecDepth 100000 in
theorem tab_ofJ {rest:List (String × DataW Unit)}{W:World}(h:laidMet Tryz.prog (("copyhold/cell.table",Rows.laid_copyhold_cell_table)::rest) W):TabAt W:=by
 obtain⟨ps,⟨g,t,cs,fuel,p,q,hg,ht,hv,hd,_,_⟩,_,_⟩:=h
 obtain rfl:=Option.some.inj ((show Tryz.prog.globalNamed "copyhold/cell.table"=some 1 by kernel_rfl).symm.trans hg)
 obtain rfl:=Option.some.inj ((show (Tryz.prog.globals[1]?).map (·.type)=some 228 by kernel_rfl).symm.trans ht);obtain⟨xs,m,_,ex,_,hl,hel⟩:=DataW.trod_array Tryz.underlying228 hd;intro r hr
 have c5:Tryz.prog.cellsOf 43=1:=by kernel_rfl
 have hE:=hel r hr;rw[c5,Nat.mul_one,List.getElem?_eq_getElem (by omega)] at hE;obtain⟨z,e1,e2,_⟩:=DataW.trod_int Tryz.underlying43 hE;have e3:(xs.map (·.1))=(List.range 16).map (fun i=>(DataW.lit (.int .u32 (crcT i:Nat)):DataW Unit)):=(DataW.agg.inj (Prod.mk.inj ex).1).symm.trans crcT_litsJ.symm
 have e4:(xs.map (·.1))[r]? = ((List.range 16).map (fun i=>(DataW.lit (.int .u32 (crcT i:Nat)):DataW Unit)))[r]? := by rw[e3]
 rw[List.getElem?_map,List.getElem?_map,List.getElem?_eq_getElem (by omega:r<xs.length),List.getElem?_range hr,e2] at e4
 have hz:z=(crcT r:Nat):=by simpa using e4
 rw[World.var?_cell hg hv r,←hz]
 have:cs.toList[r]? = some (.int .u32 z):=by
  have h0:((cs.toList.drop r).take 1)[0]? = some (.int .u32 z):=by rw[e1];rfl
  simpa using h0
 simpa using this
theorem ty_tabJ:(Tryz.prog.globals[0]?).map (·.type)=some 216:=by kernel_rfl
theorem g_dbJ:Tryz.prog.globalNamed "math/bits.deBruijn64tab"=some 6:=by kernel_rfl
theorem var_ltJ {P:Program}{g:Nat}{w:World}{n:String}{cs:Array Value}(hg:P.globalNamed n=some g)(h:w.var? P n=some cs):g<w.heap.size:=by
 unfold World.var? at h;simp only[hg,Option.bind_some] at h;rcases Nat.lt_or_ge g w.heap.size with h' | h'
 ·exact h'
 ·rw[Array.getElem?_eq_none h'] at h;simp at h
set_option maxRecDepth 100000 in
theorem job_glo {rest:List (String × DataW Unit)}{W:World}(h:laidMet Tryz.prog (("copyhold/cell.table",Rows.laid_copyhold_cell_table)::("math/bits.deBruijn32tab",Rows.laid_math_bits_deBruijn32tab)::("math/bits.deBruijn64tab",Rows.laid_math_bits_deBruijn64tab)::("internal/strconv.uint64pow10",Rows.laid_internal_strconv_uint64pow10)::rest) W)(hsh:W.ShapedOpen Tryz.prog):Gl W∧Tab W∧7≤W.heap.size:=by
 have h2:=h.tail.tail
 have htab:TabIs Tryz.prog W "internal/strconv.uint64pow10" .u64 pow10Tab:=tabIs_of_head g_tab ty_tabJ Tryz.underlying216 Tryz.underlying34 (by kernel_rfl) (by kernel_rfl) h2.tail
 refine⟨⟨tab_ofJ h,Go.Proofs.cell_of_shapedOpen_int (zero:=#[.int .i64 0]) (t:=3) hsh (of_decide_eq_true (by kernel_rfl)) (by kernel_rfl) rfl (by kernel_rfl) (by kernel_rfl) Tryz.underlying3⟩,htab,?_⟩;obtain⟨ps,⟨g',t',cs,fuel,p,q,hg',ht',hvar,_⟩,_⟩:=h2;exact var_ltJ g_dbJ hvar
theorem k_boolJ:Tryz.prog.cellsOf 4=1:=by kernel_rfl
theorem k_u64J:Tryz.prog.cellsOf 34=1:=by kernel_rfl
section
variable {H:Type}{enc:TypeId × Value→H}{W:World}
set_option maxRecDepth 100000 in
theorem ent_open {n:Nat}{cs:List Value}{y:DataW H × List MemPlace}(h:DataW.trod enc Tryz.prog W 0 (fun _=>true) true n 46 cs=some y):∃e:Ent,cs=enC e∧e.key.length≤9223372036854775807∧e.value.length≤9223372036854775807∧e.seq<18446744073709551616:=by
 obtain⟨xs,n',_,hx,hl,hlen,hf⟩:=DataW.trod_struct Tryz.underlying46 h;rw[(by kernel_rfl:Tryz.prog.cellsOf 46=4)] at hl
 match cs,hl with
 | [c0,c1,c2,c3],_ =>
  have h0:=hf 0 _ rfl;have h1:=hf 1 _ rfl;have h2:=hf 2 _ rfl;have h3:=hf 3 _ rfl
  match xs,hlen with
  | [z0,z1,z2,z3],_ =>
   replace h0:DataW.trod enc Tryz.prog W 0 (fun _=>true) true n' 9 [c0]=some z0:=by
    have h:DataW.trod enc Tryz.prog W 0 (fun _=>true) true n' 9 ((List.drop 0 [c0,c1,c2,c3]).take (Tryz.prog.cellsOf 9))=some z0:=h0;rw[k9] at h;exact h
   replace h1:DataW.trod enc Tryz.prog W 0 (fun _=>true) true n' 9 [c1]=some z1:=by
    have h:DataW.trod enc Tryz.prog W 0 (fun _=>true) true n' 9 ((List.drop 1 [c0,c1,c2,c3]).take (Tryz.prog.cellsOf 9))=some z1:=h1;rw[k9] at h;exact h
   replace h2:DataW.trod enc Tryz.prog W 0 (fun _=>true) true n' 34 [c2]=some z2:=by
    have h:DataW.trod enc Tryz.prog W 0 (fun _=>true) true n' 34 ((List.drop 2 [c0,c1,c2,c3]).take (Tryz.prog.cellsOf 34))=some z2:=h2;rw[k_u64J] at h;exact h
   replace h3:DataW.trod enc Tryz.prog W 0 (fun _=>true) true n' 4 [c3]=some z3:=by
    have h:DataW.trod enc Tryz.prog W 0 (fun _=>true) true n' 4 ((List.drop 3 [c0,c1,c2,c3]).take (Tryz.prog.cellsOf 4))=some z3:=h3;rw[k_boolJ] at h;exact h
   obtain⟨x0,e0,_,w0⟩:=DataW.trod_string Tryz.underlying9 h0;obtain⟨x1,e1,_,w1⟩:=DataW.trod_string Tryz.underlying9 h1;obtain⟨x2,e2,_,w2⟩:=DataW.trod_int Tryz.underlying34 h2;obtain⟨x3,e3,_⟩:=DataW.trod_bool Tryz.underlying4 h3;simp at e0 e1 e2 e3;subst e0 e1 e2 e3;have b2:=bounds_u64 w2;unfold maxLen at w0 w1;refine⟨⟨x0.data.toList,x1.data.toList,x2.toNat,x3⟩,?_,by simp only[dlen];omega,by simp only[dlen];omega,by simp only[];omega⟩;unfold enC;simp only[bs_of];rw[show ((x2.toNat:Nat):Int)=x2 from by omega]
def OkEL (W:World)(x:EL):Prop:=(Reads W W.heap.size 4 x.A x.l.length (entsF x.l))∧x.l.length≤9223372036854775807∧∀e∈x.l,e.key.length≤9223372036854775807∧e.value.length≤9223372036854775807∧e.seq<18446744073709551616
set_option maxRecDepth 100000 in
theorem list_open {n:Nat}{cs:List Value}{y:DataW H × List MemPlace}(h:DataW.trod enc Tryz.prog W 0 (fun _=>true) true n 44 cs=some y)(hc:∃v,cs=[v])(hp:∀x∈y.2,x.block<W.heap.size) :
  ∃x:EL,cs=elV x∧OkEL W x:=by
 obtain⟨v,rfl⟩:=hc;obtain⟨A,l,cap,rfl,e2,e3,e4⟩:=row_open (T:=Ent) Tryz.underlying44 (by kernel_rfl:Tryz.prog.cellsOf 46=4) (by omega) enC (fun _=>rfl) (fun e=>e.key.length≤9223372036854775807∧e.value.length≤9223372036854775807∧e.seq<18446744073709551616) (fun n cs z _ hz=>ent_open hz) h hp;exact⟨⟨l,A,cap⟩,rfl,e2,by unfold maxLen at e3;show l.length≤_;omega,e4⟩
end
set_option maxRecDepth 100000 in
theorem lists_open {H:Type}{enc:TypeId × Value→H}{W:World}{base:Nat}{v:Value}{d:DataW H}{p:List MemPlace}
  (hv:Value.okWide Tryz.prog W .any base 22 v) (h:DataW.Trod enc Tryz.prog W 0 (fun _=>true) true 22 v d p) (hp:∀x∈p,x.block<W.heap.size) :
  ∃A ls cap,v=.slice A ls.length cap∧LsAt W W.heap.size A ls∧ls.length≤9223372036854775807∧∀x∈ls,x.l.length≤9223372036854775807∧∀e∈x.l,e.key.length≤9223372036854775807∧e.value.length≤9223372036854775807:=by
 obtain⟨A,n,cap,rfl⟩:=okWide_slice Tryz.underlying22 hv;obtain⟨fuel,hf⟩:=h
 obtain⟨A',ls,cap',e,hr,hl,hq⟩:=row_open (T:=EL) Tryz.underlying22 (by kernel_rfl:Tryz.prog.cellsOf 44=1) (by omega) elV (fun _=>rfl) (OkEL W) (fun n cs z hz h=>list_open h (by
  rcases open_slice Tryz.underlying44 h with⟨hcs,_⟩ | ⟨a,len,cap,m,n',D,Pl,hcs,_⟩
  ·exact⟨_,hcs⟩
  ·exact⟨_,hcs⟩) hz) (y:=(d,p)) (by simpa[Value.cells] using hf) hp
 exact⟨A',ls,cap',e,⟨hr,fun x hx=>⟨(hq x hx).1,fun e he=>((hq x hx).2.2 e he).2.2⟩⟩,by unfold maxLen at hl;omega,fun x hx=>⟨(hq x hx).2.1,fun e he=>⟨((hq x hx).2.2 e he).1,((hq x hx).2.2 e he).2.1⟩⟩⟩
set_option maxRecDepth 100000 in
theorem crashJ_open {H:Type}{enc:TypeId × Value→H}{W:World}{base:Nat}{v:Value}{d:DataW H}{p:List MemPlace}
  (hv:Value.okWide Tryz.prog W .any base 58 v) (h:DataW.Trod enc Tryz.prog W 0 (fun _=>true) true 58 v d p) (hp:∀x∈p,x.block<W.heap.size) :
  ∃(c:Cra) (KA:Option Addr) (kc:Nat) (PA:Option Addr) (pc:Nat),v=.agg #[.int .i64 c.names,.slice KA c.keep.length kc,.slice PA c.spoil.length pc]∧CraR W.heap.size W c KA PA∧c.keep.length≤maxLen∧c.spoil.length≤maxLen:=by
 obtain⟨cs,rfl,hsz⟩:=okWide_struct Tryz.underlying58 hv;obtain⟨fuel,hf⟩:=h;obtain⟨c,KA,kc,PA,pc,e,hr,h1,h2⟩:=cra_open (y:=(d,p)) (by simpa[Value.cells] using hf) hp;refine⟨c,KA,kc,PA,pc,?_,hr,h1,h2⟩
 have:cs=#[.int .i64 c.names,.slice KA c.keep.length kc,.slice PA c.spoil.length pc]:=by
  rw[←Array.toList_inj]
  simpa[Value.cells] using e
 rw[this]
end Go.Proofs.YtlpojfgeocpkeaaGreatDoor
namespace Go.Proofs.YtlpojfgeocpkeaaGreatDoor
open Go.RowKit Go.Lib
set_option linter.unusedVariables false
set_option linter.unusedSimpArgs false
structure Pres (Q:Dsk→Prop)(A:L→Prop):Prop where
 create:∀s n,A n→Q s→Q (s.create n).1
 append:∀s n x,A n→Q s→Q (s.append n x).1
 sync:∀s n,A n→Q s→Q (s.sync n).1
 delete:∀s n,A n→Q s→Q (s.delete n).1
 dirsync:∀s,Q s→Q s.dirsync.1
section
variable {Q:Dsk→Prop}{A:L→Prop}{n:Nat}{lv:Int}{ls:List (List Ent)}{J:JW}{s:Dsk}
theorem laidE_pres (h:Pres Q A){nm x:L}(ha:A nm)(hs:Q s):Q (laidE s nm x).1:=by
 unfold laidE;split
 ·exact hs
 ·exact h.append _ _ _ ha hs
theorem finD_pres (h:Pres Q A){nm x:L}(ha:A nm)(hs:Q s):Q (finD s nm x).1:=by
 unfold finD;split
 ·exact h.sync _ _ ha (laidE_pres h ha hs)
 ·exact laidE_pres h ha hs
theorem openD_pres (h:Pres Q A)(ha:A (nameT (n+J.li)))(hs:Q s):Q (openD n J s).1:=by
 unfold openD;split
 ·exact h.create _ _ ha hs
 ·exact hs
theorem writeE_pres (h:Pres Q A){l:List Ent}(ha:A (nameT (n+J.li)))(hs:Q s):Q (writeE n lv l J s).2.1:=by
 have h1:=openD_pres (n:=n) (J:=J) h ha hs;have h2:=laidE_pres h (x:=((runX (n+J.li) lv (l.take J.en)).1.add (l.getD J.en ent0)).2) ha h1;have h3:=finD_pres h (x:=(runX (n+J.li) lv l).1.outL) ha h2;unfold writeE;split
 ·split
  ·split
   ·exact h2
   ·split
    ·exact h3
    ·exact h3
  ·exact h2
 ·exact h1
theorem writeE_fs {l:List Ent}(ha:A (nameT (n+J.li)))(hf:∀f∈J.fs,A f):∀f∈(writeE n lv l J s).1.fs,A f:=by
 have ho:∀f∈openF n J,A f:=by
  unfold openF;split
  ·intro f h;rcases List.mem_append.1 h with h | h
   ·exact hf f h
   ·rw[List.mem_singleton.1 h];exact ha
  ·exact hf
 unfold writeE;split
 ·split
  ·split
   ·exact ho
   ·split
    ·exact ho
    ·exact ho
  ·exact ho
 ·exact hf
theorem writeE_li {l:List Ent}(hl:J.li<ls.length):(writeE n lv l J s).1.li≤ls.length:=by
 unfold writeE;split
 ·split
  ·split
   ·exact Nat.le_of_lt hl
   ·split
    ·exact hl
    ·exact Nat.le_of_lt hl
  ·exact Nat.le_of_lt hl
 ·exact Nat.le_of_lt hl
theorem stepsE_pres (h:Pres Q A)(ha:∀i,i<ls.length→A (nameT (n+i))):∀(k:Nat) {J:JW} {s:Dsk},J.li≤ls.length→Q s→(∀f∈J.fs,A f)→Q (stepsE n lv ls k J s).2.1∧∀f∈(stepsE n lv ls k J s).1.fs,A f
 | 0,J,s,hl,hs,hf=>⟨hs,hf⟩
 | k+1,J,s,hl,hs,hf=>by
  unfold stepsE;split
  ·exact⟨hs,hf⟩
  ·rename_i hne
   have hl':J.li<ls.length:=by omega
   have h1:=writeE_pres (n:=n) (lv:=lv) (l:=ls.getD J.li []) h (ha _ hl') hs;have h2:=writeE_fs (n:=n) (lv:=lv) (l:=ls.getD J.li []) (s:=s) (ha _ hl') hf;split
   ·exact stepsE_pres h ha k (writeE_li hl') h1 h2
   ·exact⟨h1,h2⟩
theorem delsE_pres (h:Pres Q A):∀(fs:List L) {s:Dsk},Q s→(∀f∈fs,A f)→Q (delsE fs s).1
 | [],s,hs,hf=>hs
 | a::fs,s,hs,hf=>by
  have h1:=h.delete s a (hf a (List.mem_cons_self ..)) hs;unfold delsE;split
  ·exact h1
  ·exact delsE_pres h fs h1 (fun f q=>hf f (List.mem_cons_of_mem _ q))
theorem giveR_pres (h:Pres Q A){why:Nat}(hs:Q s)(hf:∀f∈J.fs,A f):Q (giveR J s why).s∧∀f∈(giveR J s why).J.fs,A f:=by
 unfold giveR;split
 ·exact⟨hs,hf⟩
 ·split
  ·exact⟨delsE_pres h _ hs hf,hf⟩
  ·exact⟨delsE_pres h _ hs hf,fun f q=>by cases q⟩
theorem stepR_pres (h:Pres Q A)(ha:∀i,i<ls.length→A (nameT (n+i)))(hl:J.li≤ls.length)(hs:Q s)(hf:∀f∈J.fs,A f):Q (stepR n lv ls J s).s∧∀f∈(stepR n lv ls J s).J.fs,A f:=by
 obtain⟨h1,h2⟩:=stepsE_pres (n:=n) (lv:=lv) h ha 8 hl hs hf;unfold stepR endR;split
 ·split
  ·exact⟨h1,h2⟩
  ·split
   ·split
    ·exact⟨h.dirsync _ h1,h2⟩
    ·exact giveR_pres h (h.dirsync _ h1) h2
   ·exact⟨h1,h2⟩
 ·exact giveR_pres h h1 h2
end
structure NamesIn (A:L→Prop)(s:Dsk):Prop where
 names:∀p∈s.names,A p.1
 last:∀p∈s.last,A p.1
 chg:∀c∈s.chg,c.toN≠[]→A c.toN
section
variable {A:L→Prop}{s:Dsk}
theorem in_does {m:NM}{c:Chg}(hm:∀p∈m,A p.1)(hc:c.toN≠[]→A c.toN):∀p∈doesC m c,A p.1:=fun p hp=>by
 rcases doesC_mem hp with h | ⟨h,rfl⟩
 ·exact hm p h
 ·exact hc h
theorem in_all:∀(cs:List Chg) {m:NM},(∀p∈m,A p.1)→(∀c∈cs,c.toN≠[]→A c.toN)→∀p∈cs.foldl doesC m,A p.1
 | [],m,hm,hc=>hm
 | c::cs,m,hm,hc=>in_all cs (in_does hm (hc c (List.mem_cons_self ..))) (fun x hx=>hc x (List.mem_cons_of_mem _ hx))
theorem NamesIn.of_eq (h:NamesIn A s){t:Dsk}(h1:t.names=s.names)(h2:t.last=s.last)(h3:t.chg=s.chg):NamesIn A t:=⟨by rw[h1];exact h.names,by rw[h2];exact h.last,by rw[h3];exact h.chg⟩
theorem NamesIn.burn (h:NamesIn A s):NamesIn A s.burn:=h.of_eq Dsk.burn_same.2.1 Dsk.burn_same.2.2.1 Dsk.burn_same.2.2.2.1
theorem NamesIn.changed (h:NamesIn A s){c:Chg}(hc:c.toN≠[]→A c.toN):NamesIn A (s.changed c).1:=by
 have hb:=h.burn;unfold Dsk.changed;split
 ·exact hb
 ·refine⟨in_does hb.names hc,hb.last,fun x hx=>?_⟩;rcases List.mem_append.1 hx with q | q
  ·exact hb.chg x q
  ·rw[List.mem_singleton.1 q];exact hc
theorem NamesIn.create (h:NamesIn A s){n:L}(hn:A n):NamesIn A (s.create n).1:=by
 unfold Dsk.create;split
 ·exact h
 ·split
  ·exact h
  ·split
   ·exact NamesIn.changed (s:={ s with files:=s.files++[⟨[],0⟩] }) ⟨h.names,h.last,h.chg⟩ (fun _=>hn)
   ·exact h
theorem NamesIn.append (h:NamesIn A s)(n x:L):NamesIn A (s.append n x).1:=by
 unfold Dsk.append;split
 ·exact h
 ·split
  ·exact h
  ·split
   ·exact h
   ·split
    ·exact h.burn
    ·exact h.burn.of_eq rfl rfl rfl
theorem NamesIn.sync (h:NamesIn A s)(n:L):NamesIn A (s.sync n).1:=by
 unfold Dsk.sync;split
 ·exact h
 ·split
  ·exact h
  ·split
   ·exact h.burn
   ·exact h.burn.of_eq rfl rfl rfl
theorem NamesIn.delete (h:NamesIn A s)(n:L):NamesIn A (s.delete n).1:=by
 unfold Dsk.delete;split
 ·exact h
 ·split
  ·exact h
  ·exact h.changed (fun e=>absurd rfl e)
theorem NamesIn.dirsync (h:NamesIn A s):NamesIn A s.dirsync.1:=by
 unfold Dsk.dirsync;split
 ·exact h
 ·split
  ·exact h.burn
  ·exact⟨h.burn.names,h.burn.names,fun c hc=>by cases hc⟩
theorem NamesIn.crash (h:NamesIn A s)(c:Cra):NamesIn A (s.crash c) :=
 have h1:∀p∈(s.chg.take (min (max c.names 0) s.chg.length).toNat).foldl doesC s.last,A p.1:=in_all _ h.last (fun x hx=>h.chg x (List.mem_of_mem_take hx))
 ⟨h1,h1,fun x hx=>by cases hx⟩
theorem NamesIn.start (h:NamesIn A s):NamesIn A s.start:=h.of_eq rfl rfl rfl
theorem NamesIn.setFuse (h:NamesIn A s)(n:Int):NamesIn A (s.setFuse n):=h.of_eq rfl rfl rfl
theorem NamesIn.new (r:Int):NamesIn A (Dsk.new r):=⟨fun p h=>(by cases h),fun p h=>(by cases h),fun p h=>(by cases h)⟩
theorem NamesIn.pres:Pres (NamesIn A) A:=⟨fun s n ha h=>h.create ha,fun s n x _ h=>h.append n x,fun s n _ h=>h.sync n,fun s n _ h=>h.delete n,fun s h=>h.dirsync⟩
theorem held_pres {n:Nm}{f:Nat}{d:List UInt8}(hn:n≠[]):Pres (fun s=>Held s n f d) (fun m=>m≠n) :=
 ⟨fun s m hm h=>h.create hn hm,fun s m x hm h=>h.append hm x,fun s m hm h=>h.sync hm,fun s m hm h=>h.delete hn hm,fun s h=>h.dirsync⟩
theorem Pres.less {Q:Dsk→Prop}{A B:L→Prop}(h:Pres Q A)(hB:∀n,B n→A n):Pres Q B :=
 ⟨fun s n hn=>h.create s n (hB n hn),fun s n x hn=>h.append s n x (hB n hn),fun s n hn=>h.sync s n (hB n hn),fun s n hn=>h.delete s n (hB n hn),h.dirsync⟩
end
end Go.Proofs.YtlpojfgeocpkeaaGreatDoor
namespace Go.Proofs.YtlpojfgeocpkeaaGreatDoor
open Go.RowKit Go.Sort
set_option linter.unusedVariables false
set_option linter.unusedSimpArgs false
def ownD1 (nm:L):Dsk × Nat:=(Dsk.new 1048576).create nm
def ownD2 (nm:L):Dsk × Nat:=(ownD1 nm).1.append nm textW
def ownD3 (nm:L):Dsk × Nat:=(ownD2 nm).1.sync nm
def ownD4 (nm:L):Dsk × Nat:=(ownD3 nm).1.dirsync
def baseN (nm:L):L→Option Fil:=Dsk.updF (fun _=>none) nm (some ⟨textW,4⟩)
theorem own_begin {nm:L}(hr:rightB nm=true):(ownD1 nm).2=0∧(ownD2 nm).2=0∧(ownD3 nm).2=0∧(ownD4 nm).2=0∧Calm 1048576 0 (ownD4 nm).1∧(∀k,(ownD4 nm).1.fil k=baseN nm k)∧(∃i,Held (ownD4 nm).1 nm i textW)∧NamesIn (fun k=>k=nm) (ownD4 nm).1:=by
 have hc:Calm 1048576 0 (Dsk.new 1048576):=calm_new 1048576;have n0:NamesIn (fun k=>k=nm) (Dsk.new 1048576):=.new _;have n1:=n0.create (n:=nm) rfl;have n2:=n1.append nm textW;have n3:=n2.sync nm;have n4:=n3.dirsync;have d1:=Dsk.create_did hc.ok hc.off (n:=nm) rfl hr;have c1:=hc.did d1 (hc.uq.create _) (hc.ok.create _) (hc.dir.create hc.ok _);rw[show (Dsk.new 1048576).create nm=ownD1 nm from rfl] at c1 n1 n2 n3 n4;rw[show (ownD1 nm).1.append nm textW=ownD2 nm from rfl] at n2 n3 n4;rw[show (ownD2 nm).1.sync nm=ownD3 nm from rfl] at n3 n4;rw[show (ownD3 nm).1.dirsync=ownD4 nm from rfl] at n4;rcases c1 with⟨_,_,e⟩ | ⟨e1,c1,f1⟩
 ·exact absurd e (by decide)
 have g1:(ownD1 nm).1.fil nm=some ⟨[],0⟩:=by rw[f1];exact updF_self _ _ _
 have hu:(ownD1 nm).1.used≤0:=by
  refine Dsk.used_le c1.uq c1.ok [nm] (fun _=>0) (fun k f e=>?_);rw[f1] at e;unfold Dsk.updF at e
  by_cases hk:k=nm
  ·rw[if_pos hk] at e;injection e with e;exact⟨by rw[hk];exact List.mem_singleton.2 rfl,by rw[←e];exact Nat.le_refl _⟩
  ·rw[if_neg hk] at e;cases e
 rcases Dsk.append_did c1.ok c1.dir c1.off g1 textW with⟨q,_⟩ | ⟨_,d2⟩
 ·rw[c1.room] at q;have:textW.length=4:=rfl;omega
 have c2:=c1.did d2 (c1.uq.append _ _) (c1.ok.append _ _) (c1.dir.append _ _);rw[show (ownD1 nm).1.append nm textW=ownD2 nm from rfl] at c2;rcases c2 with⟨_,_,e⟩ | ⟨e2,c2,f2⟩
 ·exact absurd e (by decide)
 have g2:(ownD2 nm).1.fil nm=some ⟨textW,0⟩:=by rw[f2];exact updF_self _ _ _
 have d3:=Dsk.sync_did c2.ok c2.dir c2.off g2;have c3:=c2.did d3 (c2.uq.sync _) (c2.ok.sync _) (c2.dir.sync _);rw[show (ownD2 nm).1.sync nm=ownD3 nm from rfl] at c3;rcases c3 with⟨_,_,e⟩ | ⟨e3,c3,f3⟩
 ·exact absurd e (by decide)
 have f3':∀k,(ownD3 nm).1.fil k=baseN nm k:=fun k=>by
  rw[f3,updF_congr f2,updF_updF,updF_congr f1,updF_updF];rfl
 obtain⟨d4,l4⟩:=Dsk.dirsync_did c3.off;have c4:=c3.did d4 c3.uq.dirsync c3.ok.dirsync c3.dir.dirsync;rw[show (ownD3 nm).1.dirsync=ownD4 nm from rfl] at c4 l4;rcases c4 with⟨_,_,e⟩ | ⟨e4,c4,f4⟩
 ·exact absurd e (by decide)
 have f4':∀k,(ownD4 nm).1.fil k=baseN nm k:=fun k=>by rw[f4,f3']
 obtain⟨l1,l2⟩:=l4 e4;exact⟨e1,e2,e3,e4,c4,f4',Dsk.held_of c4.dir l1 l2 (by rw[f4'];exact updF_self _ _ _),n4⟩
theorem own_good (nm:L):(ownD1 nm).1.Good 1∧(ownD2 nm).1.Good 2∧(ownD3 nm).1.Good 3∧(ownD4 nm).1.Good 4:=by
 have g1:=(Dsk.Good.new 1048576).create nm;have g2:=g1.append nm textW;have g3:=g2.sync nm;exact⟨g1,g2,g3,g3.dirsync⟩
theorem baseN_ok {nm:L}{n:Nat}(hn:n≤4294967296)(h:∀i,i<6→nameT (n+i)≠nm):BaseOk n (baseN nm) [nm]:=by
 refine⟨fun i hi=>?_,fun q f h=>?_,Nat.le_refl _,hn⟩
 ·unfold baseN Dsk.updF;rw[if_neg (h i hi)]
 ·unfold baseN Dsk.updF at h
  by_cases e:q=nm
  ·rw[if_pos e] at h;injection h with h;exact⟨by rw[e];exact List.mem_singleton.2 rfl,by rw[←h];decide⟩
  ·rw[if_neg e] at h;cases h
section
variable {F0 n:Nat}{lv:Int}{ls:List (List Ent)}{base:L→Option Fil}{BN:List L}{s:Dsk}{J:JW}{Q:Dsk→Prop}{A:L→Prop}
theorem Calm.fused (h:Calm 1048576 0 s){k:Int}(hk:k≤9223372036854775807):Calm 1048576 (max k 0).toNat (s.setFuse k) :=
 ⟨h.off,h.uq.setFuse k,h.ok.setFuse k hk,h.dir.setFuse k,h.room,Nat.le_refl _⟩
def FuI (F0 n:Nat)(lv:Int)(ls:List (List Ent))(base:L→Option Fil)(A:L→Prop)(Q:Dsk→Prop)(i:Nat)(r:SR):Prop :=
 ((r.e=0∧r.dead=false∧r.over=false∧JOk ls r.J∧JDisk 1048576 F0 n lv ls base r.J r.s∧posE ls r.J=min (8*i) (totE ls)∧(r.done=true→r.J.li=ls.length∧(0<ls.length→r.s.last=r.s.names∧r.s.chg=[]))∧(0<i→r.J.li=ls.length→r.done=true))∨StDown F0 r)∧Q r.s∧∀f∈r.J.fs,A f
theorem FuI.start (hls:LsOk ls)(h:Calm 1048576 F0 s)(hf:∀k,s.fil k=base k)(hq:Q s):FuI F0 n lv ls base A Q 0 ⟨⟨0,0,[],[]⟩,s,false,0,false,false,false⟩ :=
 ⟨.inl ⟨rfl,rfl,rfl,JOk.zero hls,.zero h hf,by show posE ls _=_;unfold posE;simp,(fun e=>(by cases e)),(fun e=>absurd e (by decide))⟩,hq,fun f h=>by cases h⟩
theorem FuI.next {i:Nat}{r:SR}(hls:LsOk ls)(hb:BaseOk n base BN)(hP:Pres Q A)(hA:∀i,i<ls.length→A (nameT (n+i)))(h:FuI F0 n lv ls base A Q i r)(he:r.e=0):FuI F0 n lv ls base A Q (i+1) (stepR n lv ls r.J r.s)∧(stepR n lv ls r.J r.s).ret=(stepR n lv ls r.J r.s).done:=by
 obtain⟨h,hq,hf⟩:=h;rcases h with⟨h1,h0,h2,h3,h4,h5,h6,h7⟩ | h
 ·have hp:=stepR_pres (lv:=lv) (J:=r.J) (s:=r.s) hP hA h3.li hq hf;rcases stepR_law hls hb h3 h4 with q | q | q
  ·exact⟨⟨.inl ⟨q.e,q.dead,q.over,q.ok,q.disk,by rw[q.pos,h5];omega,fun e=>⟨q.done.1 e,q.last e⟩,fun _=>q.done.2⟩,hp⟩,q.ret⟩
  ·exact⟨⟨.inr q,hp⟩,by rw[q.ret,q.done]⟩
  ·exact absurd q.room (by decide)
 ·have:=h.e;omega
theorem FuI.ends {i:Nat}{r:SR}(hls:LsOk ls)(h:FuI F0 n lv ls base A Q i r)(he:r.e=0)(hd:r.done=false):i≤45:=by
 obtain⟨h,hq,hf⟩:=h;rcases h with⟨h1,h0,h2,h3,h4,h5,h6,h7⟩ | h
 ·have ht:=totE_le hls;obtain⟨p1,p2,p3⟩:=posE_le h3;have hl:=h3.li
  by_cases hi:i=0
  ·omega
  ·have:r.J.li<ls.length:=by
    rcases Nat.lt_or_ge r.J.li ls.length with a | a
    ·exact a
    ·have:=h7 (by omega) (by omega);rw[hd] at this;cases this
   have:=p2 this;omega
 ·have:=h.e;omega
theorem FuI.on {i:Nat}{r:SR}(h:FuI F0 n lv ls base A Q i r)(he:r.e=0):r.dead=false∧r.over=false∧JOk ls r.J∧r.s.off=false:=by
 rcases h.1 with⟨h1,h0,h2,h3,h4,h5,h6,h7⟩ | h
 ·exact⟨h0,h2,h3,h4.calm.off⟩
 ·have:=h.e;omega
theorem FuI.e_ {i:Nat}{r:SR}(h:FuI F0 n lv ls base A Q i r)(he:r.e≠0):r.e=7∧r.dead=true∧r.over=false∧r.done=false∧r.s.off=true∧0<F0:=by
 rcases h.1 with⟨h1,_⟩ | h
 ·exact absurd h1 he
 ·exact⟨h.e,h.dead,h.over,h.done,h.off,h.pos⟩
end
theorem Pres.and {Q R:Dsk→Prop}{A:L→Prop}(h:Pres Q A)(k:Pres R A):Pres (fun s=>Q s∧R s) A :=
 ⟨fun s n a q=>⟨h.create s n a q.1,k.create s n a q.2⟩,fun s n x a q=>⟨h.append s n x a q.1,k.append s n x a q.2⟩,fun s n a q=>⟨h.sync s n a q.1,k.sync s n a q.2⟩,fun s n a q=>⟨h.delete s n a q.1,k.delete s n a q.2⟩,fun s q=>⟨h.dirsync s q.1,k.dirsync s q.2⟩⟩
theorem NamesIn.mono {A B:L→Prop}{s:Dsk}(h:NamesIn A s)(hB:∀n,A n→B n):NamesIn B s:=⟨fun p q=>hB _ (h.names p q),fun p q=>hB _ (h.last p q),fun c q e=>hB _ (h.chg c q e)⟩
def t4W:L:=[116,97,98,108,101,46,48,48,48,48,48,48,48,52]
theorem t4_name:nameT 4=t4W:=by decide +kernel
theorem t4_right:rightB t4W=true:=by decide +kernel
theorem nameT_t4 {j:Nat}(hj:j≤6):nameT (5+j)≠t4W:=by
 rw[←t4_name];intro e;have:=nameT_inj (by omega) (by omega) e;omega
def JobN (N:Nat)(m:L):Prop:=∃j,j<N∧m=nameT (5+j)
def FuQ (i N:Nat)(s:Dsk):Prop:=Held s t4W i textW∧NamesIn (fun m=>m=t4W∨JobN N m) s
theorem fu_pres (i N:Nat)(hN:N≤6):Pres (FuQ i N) (JobN N) :=
 ((held_pres (by decide)).less (fun n ⟨j,hj,e⟩=>by rw[e];exact nameT_t4 (by omega))).and (NamesIn.pres.less (fun n h=>.inr h))
theorem fu_name {N:Nat}(hN:N≤6){m:L}(h:m=t4W∨JobN N m):∃k,4≤k∧k<5+N∧numP tabW m=some k:=by
 rcases h with h | ⟨j,hj,h⟩
 ·rw[h,←t4_name];exact⟨4,by omega,by omega,numP_name tabW 4 (by decide)⟩
 ·rw[h];exact⟨5+j,by omega,by omega,numP_name tabW (5+j) (by omega)⟩
theorem FuQ.crash {i N:Nat}{s:Dsk}(h:FuQ i N s)(c:Cra):FuQ i N (s.crash c):=⟨h.1.crash c,h.2.crash c⟩
theorem FuQ.start {i N:Nat}{s:Dsk}(h:FuQ i N s):FuQ i N s.start:=⟨h.1.start,h.2.start⟩
section
variable {K:Nat→Prop}{w:World}{g d:Nat}{s:Dsk}{n:Nat}{lv:Int}{vl:Value}{os:List EL}{J:JW}{done over dead:Bool}{ok:Prop}
theorem JRun.fuse_ (h:JRun K w g d s n lv vl os J done over dead ok)(k:Int):Calls Tryz.prog 30 #[.pointer (some ⟨d,0,none⟩),.int .i64 k] w fun e w'=>e=.returned (.tuple #[])∧Keeps K w w'∧JRun K w' g d (s.setFuse k) n lv vl os J done over dead ok:=by
 obtain⟨F,gb,vt,vf,h1,h2⟩:=h;refine (Fuse_dx h1.dx h1.lt k).mono ?_;rintro e w' ⟨rfl,hD,hk⟩;obtain⟨h3,k3⟩:=h1.disk hD hk;refine⟨rfl,k3,F,gb,vt,vf,h3,fun q q2 x hx=>?_⟩;obtain⟨a,e,hT⟩:=h2 q q2 x hx;exact⟨a,e,hT.kept hk.kept (fun k q e=>e (.inr (.inr q)))⟩
theorem JRun.start_ (h:JRun K w g d s n lv vl os J done over dead ok):Calls Tryz.prog 33 #[.pointer (some ⟨d,0,none⟩)] w fun e w'=>e=.returned (.tuple #[])∧Keeps K w w'∧JRun K w' g d s.start n lv vl os J done over dead ok:=by
 obtain⟨F,gb,vt,vf,h1,h2⟩:=h;refine (Start_dx h1.dx h1.lt).mono ?_;rintro e w' ⟨rfl,hD,hk⟩;obtain⟨h3,k3⟩:=h1.disk hD hk;refine⟨rfl,k3,F,gb,vt,vf,h3,fun q q2 x hx=>?_⟩;obtain⟨a,e,hT⟩:=h2 q q2 x hx;exact⟨a,e,hT.kept hk.kept (fun k q e=>e (.inr (.inr q)))⟩
end
section
variable {K:Nat→Prop}{w:World}{g d:Nat}{s:Dsk}{n:Nat}{lv:Int}{vl:Value}{os:List EL}{J:JW}{done over dead:Bool}{ok:Prop}
theorem Drop_gone (h:JRun K w g d s n lv vl os J done over dead ok)(ho:dead=true∨s.off=true) :
  Calls Tryz.prog 16 #[.pointer (some ⟨g,0,none⟩)] w fun e w'=>e=.returned (.int .i64 7)∧Keeps K w w'∧Dx K w' d s:=by
 obtain⟨F,gb,vt,vf,h1,h2⟩:=h;refine (Drop_off h1.dx h1.box ho).mono ?_;rintro e w' ⟨rfl,_,hk⟩;exact⟨rfl,h1.keeps hk (fun k q=>.inl (.inl q)),(h1.dx.beside hk (fun k q=>.inl (.inr (.inl (.inl q))))).less (fun k _ q=>.inl q)⟩
end
def FuE (F0 n:Nat)(lv:Int)(ls:List (List Ent))(base:L→Option Fil)(A:L→Prop)(Q:Dsk→Prop)(r:SR):Prop:=∃i,FuI F0 n lv ls base A Q i r∧(r.e=0→r.done=true)
set_option maxRecDepth 100000 in
set_option maxHeartbeats 4000000 in
theorem jends_any {K:Nat→Prop}{w:World}{g d:Nat}{s:Dsk}{n:Nat}{lv:Int}{vl:Value}{os:List EL}{ls:List (List Ent)}{m F0:Nat}{base:L→Option Fil}{BN:List L}{A:L→Prop}{Q:Dsk→Prop}
  (h:JRun K w g d s n lv vl os ⟨0,0,[],[]⟩ false false false True) (hk:JK K w vl os) (hls:os.map (·.l)=ls) (hLs:LsOk ls) (hb:BaseOk n base BN) (gd:s.Good m) (hm:m≤100) (hn:n≤4294967296)
  (hI:FuI F0 n lv ls base A Q 0 ⟨⟨0,0,[],[]⟩,s,false,0,false,false,false⟩) (hP:Pres Q A) (hA:∀i,i<ls.length→A (nameT (n+i))) :
  Calls Tryz.prog 31 #[.pointer (some ⟨g,0,none⟩)] w fun e w'=>∃r:SR,e=.returned (.tuple #[.int .i64 (r.e:Nat),.bool true])∧Keeps K w w'∧JRun K w' g d r.s n lv vl os r.J r.done r.over r.dead (r.e=0)∧r.s.Good 2000∧FuE F0 n lv ls base A Q r:=by
 replace h:=Lib.hid h;replace hk:=Lib.hid hk;replace hls:=Lib.hid hls;replace hLs:=Lib.hid hLs;replace hb:=Lib.hid hb;replace gd:=Lib.hid gd;replace hI:=Lib.hid hI;replace hP:=Lib.hid hP;replace hA:=Lib.hid hA
 go_enter Tryz.func31,Tryz.ntmps31
 go_wp2_with fail
 go_loopw [4,5,6] (fun iv dv ev wr=>∃(i:Nat) (r:SR),i≤46∧r.e=0∧r.done=false∧iv=.int .i64 (i:Nat)∧JRun K wr g d r.s n lv vl os r.J false false false True∧r.s.Good (100+40*i)∧Keeps K w wr∧FuI F0 n lv ls base A Q i r) (fun iv _ _ _=>60-(intOf iv).toNat)
 case atStart=>exact⟨0,⟨⟨0,0,[],[]⟩,s,false,0,false,false,false⟩,by decide,rfl,rfl,rfl,h.out,gd.out.more (by omega),.refl _ _,hI.out⟩
 case round =>
  obtain⟨i,r,hi,he,hd,rfl,hJr,hgr,hkr,hIr⟩:=hrel;have hi45:=hIr.ends hLs.out he hd
  have h60:(i:Int)<60:=by omega
  obtain⟨hdd,hov,hJok,hoff⟩:=hIr.on he;have hst:=Step_on hJr (hk.out.keeps hkr) hls.out hJok hLs.out hoff hgr (by omega) hn;have hgn:=stepR_good (n:=n) (lv:=lv) hLs.out (by have:=hLs.out.few;omega) hJok hgr;obtain⟨hIn,hrt⟩:=hIr.next hLs.out hb.out hP.out hA.out he;obtain⟨r2,hr2⟩:∃x,stepR n lv ls r.J r.s=x:=⟨_,rfl⟩;rw[hr2] at hst hgn hIn hrt;rw[hrt] at hst;replace hst:=Lib.hid hst;replace hgn:=Lib.hid hgn;replace hIn:=Lib.hid hIn;replace hrt:=Lib.hid hrt;replace hr2:=Lib.hid hr2;replace hIr:=Lib.hid hIr;replace hJr:=Lib.hid hJr;replace hgr:=Lib.hid hgr;replace hkr:=Lib.hid hkr;replace hJok:=Lib.hid hJok;replace hdd:=Lib.hid hdd;replace hov:=Lib.hid hov;replace hoff:=Lib.hid hoff;replace he:=Lib.hid he;replace hd:=Lib.hid hd;go_wp2_with fail
  refine hst.out.mono ?_;clear hst;rintro e w8 ⟨rfl,hk8,hJ8⟩;have hkr8:=hkr.out.trans hk8 (fun _=>id)
  by_cases h0:r2.e=0
  ·obtain⟨q1,q2,q3,q4⟩:=hIn.out.on h0;have hJ9:=hJ8.weak (ok':=True) (fun _=>⟨q2,q1⟩)
   have h00:(((r2.e:Nat):Int) != 0)=false:=by rw[h0];rfl
   cases hdn:r2.done with
   | true =>
    have hfin:FuE F0 n lv ls base A Q r2:=⟨i+1,hIn.out,fun _=>hdn⟩;have hJ10:=hJ8.weak (ok':=r2.e=0) (fun _=>⟨q2,q1⟩);replace hfin:=Lib.hid hfin;replace hJ10:=Lib.hid hJ10;replace hkr8:=Lib.hid hkr8;replace h0:=Lib.hid h0;clear hJ9 hJ8 hk8
    try simp only[hdn]
    replace hdn:=Lib.hid hdn;go_wp2_with fail
    go_ret2
    exact⟨r2,rfl,hkr8.out,hJ10.out,hgn.out.more (by omega),hfin.out⟩
   | false =>
    rw[hdn,q1,q2] at hJ9;replace hJ9:=Lib.hid hJ9;replace hkr8:=Lib.hid hkr8;replace h0:=Lib.hid h0;clear hJ8 hk8
    try simp only[hdn]
    replace hdn:=Lib.hid hdn;go_wp2_with fail
    exact⟨⟨i+1,r2,by omega,h0.out,hdn.out,by go_num,hJ9.out,hgn.out.more (by omega),hkr8.out,hIn.out⟩,by simp[intOf];omega⟩
  ·obtain⟨q0,q1,q2,q3,q4,q5⟩:=hIn.out.e_ h0;have hfin:FuE F0 n lv ls base A Q r2:=⟨i+1,hIn.out,fun e=>absurd e h0⟩;have hJ10:=hJ8.weak (ok':=r2.e=0) (fun e=>absurd e h0)
   have h00:(((r2.e:Nat):Int) != 0)=true:=by rw[q0];rfl
   replace hfin:=Lib.hid hfin;replace hJ10:=Lib.hid hJ10;replace hkr8:=Lib.hid hkr8;replace h0:=Lib.hid h0;replace q0:=Lib.hid q0;clear hJ8 hk8
   try simp only[q3]
   replace q3:=Lib.hid q3;go_wp2_with fail
   go_ret2
   exact⟨r2,rfl,hkr8.out,hJ10.out,hgn.out.more (by omega),hfin.out⟩
end Go.Proofs.YtlpojfgeocpkeaaGreatDoor
