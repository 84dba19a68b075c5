/- A region that draws its order: what only reads or makes memory is walked once, in the order of the text; what writes is walked behind it. What a call leaves as it was: all blocks but some. The disk as plain data: what each of its operations answers and leaves. No program in sight. -/
import Derived.Test.YtlpojfgeocpkeaaGreatDoorX00
import GoSem.ClaimMapViews
namespace Go.Proofs.YtlpojfgeocpkeaaGreatDoor
open Go.RowKit
set_option linter.unusedVariables false
set_option linter.unusedSimpArgs false
section
variable {P:Program}{Q:Exit→Act→World→Prop}
def earlyL:List Oper→List (Option Bool)→List (Oper × Bool)
 | o::l,some false::m=>(o,false)::earlyL l m
 | o::l,some true::m=>(o,true)::earlyL l m
 | _::l,none::m=>earlyL l m
 | [],_=>[]
 | _::_,[]=>[]
def tailL:List Oper→List (Option Bool)→List Oper
 | o::l,none::m=>o::tailL l m
 | _::l,some _::m=>tailL l m
 | [],_=>[]
 | _::_,[]=>[]
def tailIx:Nat→List (Option Bool)→List Nat
 | _,[]=>[]
 | k,none::m=>k::tailIx (k+1) m
 | k,some _::m=>tailIx (k+1) m
def wpMix (P:Program)(ops:Array Oper)(C:World→Prop)(Qe:Act→Prop):List (Oper × Bool)→Act→Prop
 | [],a=>Qe a
 | (o,false)::rest,a=>wpQuiet P ops C (wpMix P ops C Qe rest) [o] a
 | (o,true)::rest,a=>wpQuiet P ops (fun _=>True) (wpMix P ops C Qe rest) [o] a
def wpTail (P:Program)(ops:Array Oper)(C:World→Prop)(Qe:Act→World→Prop):Nat→List Oper→Act→World→Prop
 | _,[],a,w=>Qe a w
 | b,o::rest,a,w=>∀Q':Exit→Act→World→Prop,(∀a' w',a'.defers=a.defers→(0<b→C w')→wpTail P ops C Qe (b-1) rest a' w'→Q' .normal a' w')→wpList P ops Q' [o] a w
theorem wpMix_nil {ops:Array Oper}{C:World→Prop}{Qe:Act→Prop}{a:Act}(h:Qe a):wpMix P ops C Qe [] a:=h
theorem wpMix_e {ops:Array Oper}{C:World→Prop}{Qe:Act→Prop}{a:Act}{o:Oper}{rest:List (Oper × Bool)}(h:wpQuiet P ops C (wpMix P ops C Qe rest) [o] a):wpMix P ops C Qe ((o,false)::rest) a:=h
theorem wpMix_p {ops:Array Oper}{C:World→Prop}{Qe:Act→Prop}{a:Act}{o:Oper}{rest:List (Oper × Bool)}(h:wpQuiet P ops (fun _=>True) (wpMix P ops C Qe rest) [o] a):wpMix P ops C Qe ((o,true)::rest) a:=h
theorem wpTail_nil {ops:Array Oper}{C:World→Prop}{Qe:Act→World→Prop}{b:Nat}{a:Act}{w:World}(h:Qe a w):wpTail P ops C Qe b [] a w:=by
 cases b<;>exact h
theorem wpTail_step {ops:Array Oper}{C:World→Prop}{Qe:Act→World→Prop}{b:Nat}{a:Act}{w:World}{o:Oper}{rest:List Oper}
  (h:∀Q':Exit→Act→World→Prop,(∀a' w',a'.defers=a.defers→(0<b→C w')→wpTail P ops C Qe (b-1) rest a' w'→Q' .normal a' w')→wpList P ops Q' [o] a w):wpTail P ops C Qe b (o::rest) a w:=by
 cases b<;>exact h
def isT (mask:List (Option Bool))(i:Nat):Bool:=match mask[i]? with
 | some none=>true
 | _=>false
def isP (mask:List (Option Bool))(i:Nat):Bool:=match mask[i]? with
 | some (some true)=>true
 | _=>false
def isCall (o:Oper):Bool:=match o.op with
 | .move _ | .assign _ | .nilCheck _ | .load .. | .binOp .. | .unOp .. | .convert .. | .makeInterface .. | .slice .. | .fieldAddr .. | .field .. | .indexAddr .. | .index .. | .extract .. | .lookup .. | .pick .. | .buildSlice .. | .build ..=>false
 | _=>true
def allIx (n:Nat)(f:Nat→Bool):Bool:=(List.range n).all f
theorem allIx_at {n:Nat}{f:Nat→Bool}(h:allIx n f=true)(i:Nat)(hi:i<n):f i=true:=List.all_eq_true.1 h i (List.mem_range.2 hi)
def onB (o:Oper)(j:Nat):Bool:=o.after.toList.any fun e=>Region.binds .any e&&e.on==j
def looksB (l:List Oper):Bool:=allIx l.length fun i=>allIx l.length fun j=>match l[i]?,l[j]? with
 | some o,some q=>match q.dst with
  | some t=>!((o.looksAt l.toArray).contains t)||onB o j||laterB l i l.length j
  | none=>true
 | _,_=>true
def earlyB (l:List Oper)(mask:List (Option Bool)):Bool:=allIx l.length fun i=>allIx l.length fun j=>!(isT mask i)||isT mask j||!(laterB l i l.length j)
def pairB (l:List Oper):List Nat→Bool
 | []=>true
 | i::r=>(r.all fun j=>laterB l i l.length j)&&pairB l r
def impB (l:List Oper)(mask:List (Option Bool))(b:Nat):Bool:=allIx l.length fun i=>isT mask i||isP mask i||match (tailIx 0 mask)[b]? with
 | some t=>laterB l i l.length t
 | none=>true
def callB (l:List Oper)(mask:List (Option Bool)):Bool:=allIx l.length fun i=>isT mask i||match l[i]? with
 | some o=>!(isCall o)||(!(isP mask i)&&match (tailIx 0 mask)[0]? with
  | some t=>laterB l i l.length t
  | none=>true)
 | none=>true
def lineB (l:List Oper)(mask:List (Option Bool))(b:Nat):Bool :=
 decide (l.length=mask.length)&&backB l&&apartB l&&Region.noSelect l.toArray&&looksB l&&earlyB l mask&&pairB l (tailIx 0 mask)&&impB l mask b&&callB l mask
theorem tailIx_mem:∀(m:List (Option Bool)) (k i:Nat),i∈tailIx k m↔k≤i∧m[i-k]? = some none
 | [],k,i=>by simp[tailIx]
 | none::m,k,i=>by
  unfold tailIx;rw[List.mem_cons,tailIx_mem m (k+1) i]
  constructor
  ·rintro (rfl | ⟨h1,h2⟩)
   ·simp
   ·refine⟨by omega,?_⟩;rw[show i-k=(i-(k+1))+1 from by omega]
    simpa using h2
  ·rintro ⟨h1,h2⟩
   by_cases e:i=k
   ·exact .inl e
   ·right
    refine⟨by omega,?_⟩;rw[show i-k=(i-(k+1))+1 from by omega] at h2
    simpa using h2
 | some p::m,k,i=>by
  unfold tailIx;rw[tailIx_mem m (k+1) i]
  constructor
  ·rintro ⟨h1,h2⟩;refine⟨by omega,?_⟩;rw[show i-k=(i-(k+1))+1 from by omega]
   simpa using h2
  ·rintro ⟨h1,h2⟩
   have:i≠k:=by
    rintro rfl;simp at h2
   refine⟨by omega,?_⟩;rw[show i-k=(i-(k+1))+1 from by omega] at h2
   simpa using h2
theorem isT_iff {mask:List (Option Bool)}{i:Nat}:isT mask i=true↔i∈tailIx 0 mask:=by
 rw[tailIx_mem];unfold isT
 constructor
 ·intro h;refine⟨Nat.zero_le _,?_⟩
  split at h
  ·rename_i h2;simpa using h2
  ·cases h
 ·rintro ⟨_,h⟩;rw[Nat.sub_zero] at h;rw[h]
theorem tailL_ix (l:List Oper):∀(ll:List Oper) (mm:List (Option Bool)) (k:Nat),ll.length=mm.length→(∀j,ll[j]? = l[k+j]?)→tailL ll mm=(tailIx k mm).filterMap (fun i=>l[i]?)
 | [],[],_,_,_=>rfl
 | [],_::_,_,h,_=>by simp at h
 | _::_,[],_,h,_=>by simp at h
 | o::ll,none::mm,k,h,hl=>by
  have h0:l[k]? = some o:=by simpa using (hl 0).symm
  unfold tailL tailIx;rw[List.filterMap_cons,h0,tailL_ix l ll mm (k+1) (by simpa using h) (fun j=>by have:=hl (j+1);rw[show k+1+j=k+(j+1) from by omega];simpa using this)]
 | o::ll,some p::mm,k,h,hl=>by
  unfold tailL tailIx;exact tailL_ix l ll mm (k+1) (by simpa using h) (fun j=>by have:=hl (j+1);rw[show k+1+j=k+(j+1) from by omega];simpa using this)
theorem putAll_congr_lt:∀(l:List Oper) (k:Nat) (us us':Nat→Value) (a:Act),(∀j,k≤j→j<k+l.length→us j=us' j)→putAll k l us a=putAll k l us' a
 | [],_,_,_,_,_=>rfl
 | o::l,k,us,us',a,h=>by
  unfold putAll;rw[h k (Nat.le_refl _) (by simp)];exact putAll_congr_lt l (k+1) us us' _ (fun j hj hj'=>h j (by omega) (by simp at hj' ⊢;omega))
theorem putAll_tmp (t:Tmp):∀(l:List Oper) (k:Nat) (us us':Nat→Value) (a a':Act),(∀j o,l[j]? = some o→o.dst=some t→us (k+j)=us' (k+j))→a.tmps[t]? = a'.tmps[t]? → (putAll k l us a).tmps[t]? = (putAll k l us' a').tmps[t]?
 | [],_,_,_,_,_,_,h=>h
 | o::l,k,us,us',a,a',hj,h=>by
  unfold putAll;refine putAll_tmp t l (k+1) us us' _ _ (fun j q hq hd=>?_) ?_
  ·have:=hj (j+1) q (by simpa using hq) hd
   rwa [show k+1+j=k+(j+1) from by omega]
  ·cases hd:o.dst with
   | none=>exact h
   | some x =>
    simp only[Act.put]
    by_cases hx:x=t
    ·subst hx;have:=hj 0 o (by simp) hd;rw[Nat.add_zero] at this;rw[this];rcases Nat.lt_or_ge x a.tmps.size with h1 | h1
     ·rcases Nat.lt_or_ge x a'.tmps.size with h2 | h2
      ·rw[Array.getElem?_setIfInBounds_self_of_lt h1,Array.getElem?_setIfInBounds_self_of_lt h2]
      ·rw[Array.getElem?_eq_none h2,Array.getElem?_eq_getElem h1] at h;cases h
     ·rcases Nat.lt_or_ge x a'.tmps.size with h2 | h2
      ·rw[Array.getElem?_eq_none h1,Array.getElem?_eq_getElem h2] at h;cases h
      ·rw[Array.getElem?_eq_none (by simpa using h1),Array.getElem?_eq_none (by simpa using h2)]
    ·rw[Array.getElem?_setIfInBounds_ne hx,Array.getElem?_setIfInBounds_ne hx];exact h
def selfU (l:List Oper)(a:Act):Nat→Value:=fun k=>match (l[k]?).bind (·.dst) with
 | some t=>a.tmps.getD t undef
 | none=>undef
theorem set_self (a:Array Value)(t:Nat):a.setIfInBounds t (a.getD t undef)=a:=by
 apply Array.ext
 ·simp
 ·intro i h1 h2
  by_cases hi:t=i
  ·subst hi;simp[Array.getD,h2]
  ·rw[Array.getElem_setIfInBounds_ne _ hi]
theorem putAll_self:∀(l:List Oper) (k:Nat) (us:Nat→Value) (a:Act),(∀j o t,l[j]? = some o→o.dst=some t→us (k+j)=a.tmps.getD t undef)→putAll k l us a=a
 | [],_,_,_,_=>rfl
 | o::l,k,us,a,h=>by
  unfold putAll
  have h0:a.put o.dst (us k)=a:=by
   cases hd:o.dst with
   | none=>rfl
   | some t =>
    have:=h 0 o t (by simp) hd;rw[Nat.add_zero] at this;rw[this];simp only[Act.put,set_self]
  rw[h0]
  exact putAll_self l (k+1) us a (fun j q t hq hd=>by
   have:=h (j+1) q t (by simpa using hq) hd
   rwa [show k+1+j=k+(j+1) from by omega])
theorem exec_agree {l:List Oper}{a0:Act}{o:Oper}{us us':Nat→Value}(hs:∀cs b,o.op≠.select cs b)
  (h:∀j q t,l[j]? = some q→q.dst=some t→t∈o.looksAt l.toArray→us j=us' j) :
  execOp (putAll 0 l us a0).eval o=execOp (putAll 0 l us' a0).eval o∧Region.wanted o (yielded l.toArray (putAll 0 l us a0).tmps)=Region.wanted o (yielded l.toArray (putAll 0 l us' a0).tmps):=by
 have tm:∀t,t∈o.looksAt l.toArray→(putAll 0 l us a0).tmps[t]? = (putAll 0 l us' a0).tmps[t]? := fun t ht =>
  putAll_tmp t l 0 us us' a0 a0 (fun j q hq hd=>by rw[Nat.zero_add];exact h j q t hq hd ht) rfl
 refine⟨execOp_congr o hs fun x hx=>?_,?_⟩
 ·cases x with
  | tmp t =>
   have:=tm t (List.mem_append_left _ (List.mem_filterMap.2 ⟨.tmp t,by simpa using hx,rfl⟩));simp only[Act.eval,Array.getD_eq_getD_getElem?,this]
  | _=>rfl
 ·unfold Region.wanted
  cases hg:o.guard with
  | none=>rfl
  | some gw =>
   obtain⟨g,want⟩:=gw
   have hy:yielded l.toArray (putAll 0 l us a0).tmps g=yielded l.toArray (putAll 0 l us' a0).tmps g:=by
    unfold yielded
    cases ht:(l.toArray[g]?).bind (·.dst) with
    | none=>rfl
    | some t =>
     have:=tm t (by
      unfold Oper.looksAt;rw[hg]
      exact List.mem_append_right _ (by simp only[ht];simp))
     simp only[Option.bind_some,this]
   simp only[hy]
theorem AllOps.intro {H:Nat→Oper→Prop}:∀(l:List Oper) (k:Nat),(∀j o,l[j]? = some o→H (k+j) o)→AllOps H k l
 | [],_,_=>trivial
 | o::l,k,h=>⟨by simpa using h 0 o (by simp),AllOps.intro l (k+1) (fun j q hq=>by
   have:=h (j+1) q (by simpa using hq)
   rwa [show k+1+j=k+(j+1) from by omega])⟩
theorem quiet_one {ops:Array Oper}{C:World→Prop}{K:Act→Prop}{o:Oper}{a:Act}(h:wpQuiet P ops C K [o] a):∃v,YieldsIn P ops C o v a∧K (a.put o.dst v):=by
 unfold wpQuiet at h
 by_cases hw:Region.wanted o (yielded ops a.tmps)=true
 ·rw[if_pos hw] at h;obtain⟨v,h1,h2⟩:=h;exact⟨v,.inl ⟨hw,h1⟩,h2⟩
 ·rw[if_neg hw] at h;exact⟨undef,.inr ⟨by simpa using hw,rfl⟩,h⟩
def clsOf (C:World→Prop)(p:Bool):World→Prop:=if p then fun _=>True else C
theorem walk_spec {C:World→Prop}{Qe:Act→Prop}{l:List Oper}{a0:Act}(hap:apartB l=true):∀(ll:List Oper) (mm:List (Option Bool)) (k:Nat) (us:Nat→Value),ll.length=mm.length→(∀j o,ll[j]? = some o→l[k+j]? = some o) →
  wpMix P l.toArray C Qe (earlyL ll mm) (putAll 0 l us a0) →
  ∃val:Nat→Value,(∀j,j<k→val j=us j)∧(∀j,mm[j]? = some none→val (k+j)=us (k+j)) ∧
   (∀j o p,ll[j]? = some o→mm[j]? = some (some p)→YieldsIn P l.toArray (clsOf C p) o (val (k+j)) (putAll 0 l (fun i=>if i<k+j then val i else us i) a0))∧Qe (putAll 0 l val a0)
 | [],[],k,us,_,_,h=>⟨us,fun _ _=>rfl,fun _ _=>rfl,fun j o p hj=>by simp at hj,h⟩
 | [],_::_,_,_,hl,_,_=>by simp at hl
 | _::_,[],_,_,hl,_,_=>by simp at hl
 | o::ll,none::mm,k,us,hl,hat,h=>by
  obtain⟨val,h1,h2,h3,h4⟩:=walk_spec hap ll mm (k+1) us (by simpa using hl) (fun j q hq=>by
   have:=hat (j+1) q (by simpa using hq)
   rwa [show k+1+j=k+(j+1) from by omega]) (by simpa[earlyL] using h)
  refine⟨val,fun j hj=>h1 j (by omega),fun j hj=>?_,fun j q p hq hp=>?_,h4⟩
  ·cases j with
   | zero=>exact h1 k (by omega)
   | succ j=>have:=h2 j (by simpa using hj);rwa [show k+(j+1)=k+1+j from by omega]
  ·cases j with
   | zero=>simp at hp
   | succ j =>
    have:=h3 j q p (by simpa using hq) (by simpa using hp)
    rwa [show k+(j+1)=k+1+j from by omega]
 | o::ll,some p::mm,k,us,hl,hat,h=>by
  have h0:l[k]? = some o:=by simpa using hat 0 o (by simp)
  have h':wpQuiet P l.toArray (clsOf C p) (wpMix P l.toArray C Qe (earlyL ll mm)) [o] (putAll 0 l us a0):=by
   cases p<;>simpa[earlyL,wpMix,clsOf] using h
  obtain⟨v,hy,hk⟩:=quiet_one h';have hput:=putAll_put l 0 us a0 k o v hap h0;rw[Nat.zero_add] at hput;rw[hput] at hk
  obtain⟨val,h1,h2,h3,h4⟩:=walk_spec hap ll mm (k+1) (updU us k v) (by simpa using hl) (fun j q hq=>by
   have:=hat (j+1) q (by simpa using hq)
   rwa [show k+1+j=k+(j+1) from by omega]) hk
  have hk0:val k=v:=by rw[h1 k (by omega)];simp[updU]
  have hne:∀j,j≠k→updU us k v j=us j:=fun j hj=>by unfold updU;rw[if_neg hj]
  refine⟨val,fun j hj=>by rw[h1 j (by omega),hne j (by omega)],fun j hj=>?_,fun j q p' hq hp=>?_,h4⟩
  ·cases j with
   | zero=>simp at hj
   | succ j =>
    have:=h2 j (by simpa using hj);rw[show k+(j+1)=k+1+j from by omega,this,hne _ (by omega)]
  ·cases j with
   | zero =>
    simp at hq hp;subst hq hp;rw[Nat.add_zero,hk0]
    have e:putAll 0 l (fun i=>if i<k then val i else us i) a0=putAll 0 l us a0:=by
     refine putAll_congr l 0 _ _ _ (fun j _=>?_)
     by_cases hj:j<k
     ·rw[if_pos hj,h1 j (by omega),hne j (by omega)]
     ·rw[if_neg hj]
    rw[e];exact hy
   | succ j =>
    have:=h3 j q p' (by simpa using hq) (by simpa using hp);rw[show k+(j+1)=k+1+j from by omega]
    have e:putAll 0 l (fun i=>if i<k+1+j then val i else us i) a0=putAll 0 l (fun i=>if i<k+1+j then val i else updU us k v i) a0:=by
     refine putAll_congr l 0 _ _ _ (fun i _=>?_)
     by_cases hj:i<k+1+j
     ·rw[if_pos hj,if_pos hj]
     ·rw[if_neg hj,if_neg hj,hne i (by omega)]
    rw[e];exact this
theorem laterB_gt {l:List Oper}(hb:backB l=true){i:Nat}:∀f k,laterB l i f k=true→i<k
 | 0,_,h=>by simp[laterB] at h
 | f+1,k,h=>by
  unfold laterB at h
  cases ho:l[k]? with
  | none=>rw[ho] at h;simp at h
  | some o =>
   rw[ho] at h;simp only[List.any_eq_true,Bool.and_eq_true,Bool.or_eq_true,beq_iff_eq] at h;obtain⟨e,he,hbd,h1⟩:=h;unfold backB at hb;rw[List.all_eq_true] at hb;have hlt:k<l.length:=(List.getElem?_eq_some_iff.1 ho).1;have h2:=hb (o,k) (by rw[List.mem_zipIdx_iff_getElem?];simpa using ho);simp only[Array.all_eq_true_iff_forall_mem] at h2;have h3:=h2 e (by simpa using he);simp[hbd] at h3;rcases h1 with h1 | h1
   ·omega
   ·have:=laterB_gt (l:=l) (by unfold backB;rw[List.all_eq_true];exact hb) f e.on h1;omega
theorem shut_set {l:List Oper}{d:Nat→Bool}{i:Nat}{o:Oper}(hl:l[i]? = some o)(hs:Shut l d)(hp:∀k,(∃e,e∈o.after∧Region.binds .any e=true∧e.on=k)→d k=true):Shut l (setD d i):=by
 intro k o' ho' hk e he hbd;unfold setD at hk ⊢
 by_cases hon:e.on=i
 ·rw[if_pos hon]
 ·rw[if_neg hon]
  by_cases hki:k=i
  ·subst hki;rw[hl] at ho';injection ho' with ho';subst ho';exact hp _ ⟨e,he,hbd,rfl⟩
  ·rw[if_neg hki] at hk;exact hs k o' ho' hk e he hbd
theorem pairB_spec {l:List Oper}:∀ {dn:List Nat} {i j:Nat} {r:List Nat},pairB l (dn++i::r)=true→j∈r→laterB l i l.length j=true
 | [],i,j,r,h,hj=>by
  simp only[List.nil_append,pairB,Bool.and_eq_true,List.all_eq_true] at h;exact h.1 j hj
 | _::dn,i,j,r,h,hj=>by
  simp only[List.cons_append,pairB,Bool.and_eq_true] at h;exact pairB_spec h.2 hj
def fullU (mask:List (Option Bool))(val us:Nat→Value):Nat→Value:=fun k=>if isT mask k=true then us k else val k
theorem val_enter {s:Sem Value}{w w':World}{f:FuncId}{args:Array Value}(h:((do pure (.value (←s))):Sem Next).run P w=.ok (.enter f args) w'):False:=by
 rw[Sem.run_bind] at h
 cases hs:s.run P w with
 | ok a w1=>rw[hs] at h;simp at h
 | halt x w1=>rw[hs] at h;simp at h
theorem bind_enter {α:Type}{s:Sem α}{g:α→Sem Next}{w w':World}{f:FuncId}{args:Array Value}(hg:∀a w1,(g a).run P w1=.ok (.enter f args) w'→False)(h:(s >>= g).run P w=.ok (.enter f args) w'):False:=by
 rw[Sem.run_bind] at h
 cases hs:s.run P w with
 | ok a w1=>rw[hs] at h;exact hg a w1 h
 | halt x w1=>rw[hs] at h;simp at h
theorem not_enter {ρ:Operand→Value}{o:Oper}{w w':World}{f:FuncId}{args:Array Value}(hc:isCall o=false)(h:(execOp ρ o).run P w=.ok (.enter f args) w'):False:=by
 obtain⟨dst,op,type,pos,after,guard⟩:=o
 cases op<;>first | (simp[isCall] at hc;done) | skip
 all_goals first
  | exact val_enter h
  | (simp[execOp] at h;done)
  | (unfold execOp at h
     dsimp only at h
     repeat' split at h
     all_goals first | (simp at h;done) | exact val_enter h | (simp[runtimePanic] at h;done) | (simp only[Sem.run_bind] at h;simp at h;split at h<;>simp at h;done) | (refine bind_enter (fun _ _ h1=>bind_enter (fun a w1 h2=>?_) h1) h;split at h2<;>simp at h2) | (refine bind_enter (fun _ _ h1=>?_) h;simp at h1))
def isLen (o:Oper):Bool:=match o.op with
 | .call { callee:=.builtin .len,args:=_,argTypes:=_ }=>true
 | _=>false
def isCall2 (o:Oper):Bool:=isCall o&&!(isLen o)
def callB2 (l:List Oper)(mask:List (Option Bool)):Bool:=allIx l.length fun i=>isT mask i||match l[i]? with
 | some o=>!(isCall2 o)||(!(isP mask i)&&match (tailIx 0 mask)[0]? with
  | some t=>laterB l i l.length t
  | none=>true)
 | none=>true
def lineB2 (l:List Oper)(mask:List (Option Bool))(b:Nat):Bool :=
 decide (l.length=mask.length)&&backB l&&apartB l&&Region.noSelect l.toArray&&looksB l&&earlyB l mask&&pairB l (tailIx 0 mask)&&impB l mask b&&callB2 l mask
theorem not_enter2 {ρ:Operand→Value}{o:Oper}{w w':World}{f:FuncId}{args:Array Value}(hc:isCall2 o=false)(h:(execOp ρ o).run P w=.ok (.enter f args) w'):False:=by
 by_cases h1:isCall o=false
 ·exact not_enter h1 h
 ·have h2:isLen o=true:=by
   unfold isCall2 at hc
   revert hc h1
   cases isCall o<;>cases isLen o<;>simp
  obtain⟨dst,op,type,pos,after,guard⟩:=o;unfold isLen at h2;simp only at h2
  split at h2
  ·unfold execOp at h;simp only[resolve,invoke,builtin] at h;simp only[Sem.run_bind,Sem.run_pure,Result.andThen_ok] at h;generalize Sem.run P _ w=r at h
   cases r<;>simp[Result.andThen] at h
  ·cases h2
theorem wp_region_line2 {id:Nat}{a0:Act}{w0:World}{l:List Oper}(C:World→Prop)(mask:List (Option Bool))(b:Nat)
  (hm:P.follows .mixedOrders=true) (hB:lineB2 l mask b=true) (hC:C w0.drew)
  (h:wpMix P l.toArray C (fun a=>∀w,C w→wpTail P l.toArray C (Q .normal) b (tailL l mask) a w) (earlyL l mask) a0):(Code.region id l.toArray true).wp P Q a0 w0:=by
 unfold lineB2 at hB;simp only[Bool.and_eq_true,decide_eq_true_eq] at hB;obtain⟨⟨⟨⟨⟨⟨⟨⟨hlen,hback⟩,hap⟩,hsel⟩,hlooks⟩,hearly⟩,hpair⟩,himp⟩,hcall⟩:=hB;have hself:putAll 0 l (selfU l a0) a0=a0:=putAll_self l 0 _ _ (fun j o t hj hd=>by simp[selfU,hj,hd]);obtain⟨val,_,hvT,hvY,hend⟩:=walk_spec hap l mask 0 (selfU l a0) hlen (fun j o hj=>by simpa using hj) (by rw[hself];exact h);have htail:=tailL_ix l l mask 0 hlen (fun j=>by simp);rw[htail] at hend;clear htail h
 have hvT':∀i,isT mask i=true→val i=selfU l a0 i:=fun i hi=>by
  have:=(tailIx_mem mask 0 i).1 (isT_iff.1 hi);have:=hvT i (by simpa using this.2)
  simpa using this
 have selO:∀(i:Nat) (o:Oper),l[i]? = some o→∀cs b,o.op≠.select cs b:=fun i o hi cs b=>Region.noSelect_spec hsel i o cs b (by simpa using hi);have lt_of:∀ {i:Nat} {o:Oper},l[i]? = some o→i<l.length:=fun hi=>(List.getElem?_eq_some_iff.1 hi).1
 have direct:∀ {i j:Nat} {o:Oper},l[i]? = some o→onB o j=true→laterB l j l.length i=true:=by
  intro i j o hi hon;have:=lt_of hi;obtain⟨n,hn⟩:∃n,l.length=n+1:=⟨l.length-1,by omega⟩;rw[hn];unfold laterB;rw[hi];unfold onB at hon;simp only[List.any_eq_true,Bool.and_eq_true,beq_iff_eq,Bool.or_eq_true] at hon ⊢;obtain⟨e,he,hb,h2⟩:=hon;exact⟨e,he,hb,.inl h2⟩
 have notlater:∀ {i j:Nat},i<l.length→j<l.length→isT mask i=true→isT mask j=false→laterB l i l.length j=false:=by
  intro i j hi hj h1 h2;have:=allIx_at (allIx_at hearly i hi) j hj
  simpa[h1,h2] using this
 have looks:∀ {i j:Nat} {o q:Oper} {t:Tmp},l[i]? = some o→l[j]? = some q→q.dst=some t→t∈o.looksAt l.toArray→onB o j=true∨laterB l i l.length j=true:=by
  intro i j o q t hi hj hd ht;have:=allIx_at (allIx_at hlooks i (lt_of hi)) j (lt_of hj);simp only[hi,hj,hd] at this
  simpa[ht] using this
 refine wp_region_inv (fun d us w=>Shut l d∧(∀k,isT mask k=false→d k=true→us k=val k)∧(∀k,d k=false→us k=selfU l a0 k) ∧
   ∃dn rest,tailIx 0 mask=dn++rest∧(∀i∈dn,d i=true)∧(∀i∈rest,d i=false)∧(dn.length≤b→C w) ∧
    (dn=[]∨wpTail P l.toArray C (Q .normal) (b-dn.length) (rest.filterMap (fun i=>l[i]?)) (putAll 0 l (fullU mask val us) a0) w))
  (selfU l a0) hm hback hap hself ⟨(fun _ _ _ h=>(by cases h)),(fun _ _ h=>(by cases h)),fun _ _=>rfl,[],_,rfl,by simp,fun _ _=>rfl,fun _=>hC,.inl rfl⟩ ?_ ?_
 ·refine AllOps.intro l 0 (fun i o hi=>?_);rw[Nat.zero_add];rintro d us w ⟨hs,hv,hu,dn,rest,hsp,hdn,hrest,hCw,htl⟩ hd hp us' rfl;have hi':=lt_of hi;have hs':Shut l (setD d i):=shut_set hi hs hp
  have onp:∀ {j:Nat},onB o j=true→d j=true:=by
   intro j hon;unfold onB at hon;simp only[List.any_eq_true,Bool.and_eq_true,beq_iff_eq] at hon;obtain⟨e,he,hb,h2⟩:=hon;exact hp j ⟨e,by simpa using he,hb,h2⟩
  have later0:∀ {j:Nat},laterB l i l.length j=true→d j=false:=fun hj=>laterB_not hs hd _ _ hj
  have ahead1:∀ {j:Nat},laterB l j l.length i=true→d j=true:=by
   intro j hj;rcases Bool.eq_false_or_eq_true (d j) with h1 | h1
   ·exact h1
   ·by_cases e:j=i
    ·subst e;have:=laterB_gt hback _ _ hj;omega
    ·have h2:setD d i j=false:=by unfold setD;rw[if_neg e];exact h1
     have h3:=laterB_not hs' h2 _ _ hj;unfold setD at h3;rw[if_pos rfl] at h3;cases h3
  rcases Bool.eq_false_or_eq_true (isT mask i) with hT | hT
  ·
   have him:i∈tailIx 0 mask:=isT_iff.1 hT;rw[hsp] at him
   have hir:i∈rest:=by
    rcases List.mem_append.1 him with h1 | h1
    ·rw[hdn i h1] at hd;cases hd
    ·exact h1
   obtain⟨rest',rfl⟩:∃rest',rest=i::rest':=by
    cases rest with
    | nil=>cases hir
    | cons r rest' =>
     by_cases e:r=i
     ·exact⟨rest',by rw[e]⟩
     ·exfalso
      have hir':i∈rest':=by
       rcases List.mem_cons.1 hir with h1 | h1
       ·exact absurd h1.symm e
       ·exact h1
      have:=ahead1 (pairB_spec (dn:=dn) (hsp ▸ hpair) hir');rw[hrest r (by simp)] at this;cases this
   have hag:=exec_agree (l:=l) (a0:=a0) (us:=us') (us':=fullU mask val us') (selO i o hi) (fun j q t hj hdst ht=>by
    unfold fullU;rcases Bool.eq_false_or_eq_true (isT mask j) with hTj | hTj
    ·rw[if_pos hTj]
    ·rw[if_neg (by rw[hTj];decide)];rcases looks hi hj hdst ht with h1 | h1
     ·exact hv j hTj (onp h1)
     ·rw[notlater hi' (lt_of hj) hT hTj] at h1;cases h1)
   have htw:wpTail P l.toArray C (Q .normal) (b-dn.length) (o::rest'.filterMap (fun i=>l[i]?)) (putAll 0 l (fullU mask val us') a0) w:=by
    rcases htl with rfl | h1
    ·have hfull:putAll 0 l (fullU mask val us') a0=putAll 0 l val a0:=putAll_congr l 0 _ _ _ (fun j _=>by
      unfold fullU;rcases Bool.eq_false_or_eq_true (isT mask j) with hTj | hTj
      ·rw[if_pos hTj,hvT' j hTj]
       have:j∈i::rest':=by have:=isT_iff.1 hTj;rw[hsp] at this;simpa using this
       exact hu j (hrest j this)
      ·rw[if_neg (by rw[hTj];decide)])
     rw[hfull];have:=hend w (hCw (Nat.zero_le _));rw[hsp,List.nil_append,List.filterMap_cons,hi] at this
     simpa using this
    ·rw[List.filterMap_cons,hi] at h1;exact h1
   have hfr:∀v,(putAll 0 l (fullU mask val us') a0).put o.dst v=putAll 0 l (fullU mask val (updU us' i v)) a0:=fun v=>by
    have:=putAll_put l 0 (fullU mask val us') a0 i o v hap hi;rw[Nat.zero_add] at this;rw[this];refine putAll_congr l 0 _ _ _ (fun j _=>?_);unfold updU fullU
    by_cases e:j=i
    ·subst e;simp only[if_true,hT]
    ·simp only[if_neg e]
   have next:∀v w',(0<b-dn.length→C w')→wpTail P l.toArray C (Q .normal) (b-dn.length-1) (rest'.filterMap (fun i=>l[i]?)) ((putAll 0 l (fullU mask val us') a0).put o.dst v) w' →
     Shut l (setD d i)∧(∀k,isT mask k=false→setD d i k=true→updU us' i v k=val k)∧(∀k,setD d i k=false→updU us' i v k=selfU l a0 k) ∧
     ∃dn rest,tailIx 0 mask=dn++rest∧(∀i_1∈dn,setD d i i_1=true)∧(∀i_1∈rest,setD d i i_1=false)∧(dn.length≤b→C w') ∧
      (dn=[]∨wpTail P l.toArray C (Q .normal) (b-dn.length) (rest.filterMap (fun i=>l[i]?)) (putAll 0 l (fullU mask val (updU us' i v)) a0) w'):=by
    intro v w' hc htw';refine⟨hs',fun k hk hdk=>?_,fun k hk=>?_,dn++[i],rest',by rw[hsp];simp,fun k hk=>?_,fun k hk=>?_,fun hb'=>?_,.inr ?_⟩
    ·have hki:k≠i:=by rintro rfl;rw[hT] at hk;cases hk
     unfold setD at hdk;unfold updU;rw[if_neg hki] at hdk ⊢;exact hv k hk hdk
    ·unfold setD at hk;unfold updU
     by_cases e:k=i
     ·rw[if_pos e] at hk;cases hk
     ·rw[if_neg e] at hk ⊢;exact hu k hk
    ·unfold setD
     by_cases e:k=i
     ·rw[if_pos e]
     ·rw[if_neg e];rcases List.mem_append.1 hk with h1 | h1
      ·exact hdn k h1
      ·simp at h1;exact absurd h1 e
    ·have hki:k≠i:=by
      rintro rfl;have:=laterB_gt hback _ _ (pairB_spec (dn:=dn) (hsp ▸ hpair) hk);omega
     unfold setD;rw[if_neg hki];exact hrest k (List.mem_cons_of_mem _ hk)
    ·simp at hb';exact hc (by omega)
    ·rw[←hfr v,List.length_append,List.length_singleton,Nat.sub_add_eq];exact htw'
   have hone:=htw (fun ex a' w'=>ex=.normal∧a'.defers=(putAll 0 l (fullU mask val us') a0).defers∧(0<b-dn.length→C w')∧wpTail P l.toArray C (Q .normal) (b-dn.length-1) (rest'.filterMap (fun i=>l[i]?)) a' w')
    (fun a' w' h1 h2 h3=>⟨rfl,h1,h2,h3⟩)
   unfold wpList at hone;rw[hag.2]
   by_cases hw:Region.wanted o (yielded l.toArray (putAll 0 l (fullU mask val us') a0).tmps)=true
   ·rw[if_pos hw] at hone;refine .inl ⟨hw,fun K Q2 hK=>?_⟩;rcases hone with hone | ⟨_,a1,w1,h1,_⟩
    ·unfold Oper.wp at hone ⊢;rw[hag.1]
     generalize (execOp (putAll 0 l (fullU mask val us') a0).eval o).run P w=r at *
     cases r with
     | ok n w1 =>
      cases n<;>simp only[Oper.upon] at hone ⊢
      case value v =>
       unfold wpList at hone;exact hK v w1 (next v w1 hone.2.2.1 hone.2.2.2)
      case skip =>
       unfold wpList at hone;exact hK undef w1 (next undef w1 hone.2.2.1 hone.2.2.2)
      case defer dd =>
       unfold wpList at hone
       exfalso
       have:=hone.2.1
       cases hdst:o.dst<;>simp[Act.put,hdst] at this
      case enter f args =>
       refine hone.mono fun e w2 he=>?_
       cases e with
       | returned v =>
        unfold wpList at he;exact hK v w2 (next v w2 he.2.2.1 he.2.2.2)
       | panicked c=>exact absurd he.1 (by simp)
       | outgrown =>
        obtain⟨a1,w3,h1,_⟩:=he;cases h1
      case row rr args =>
       refine Rows.mono hone fun v w2 he=>?_;unfold wpList at he;exact hK v w2 (next v w2 he.2.2.1 he.2.2.2)
     | halt x w1 =>
      cases x<;>simp only[Oper.upon] at hone ⊢
      exact absurd hone.1 (by simp)
    ·cases h1
   ·rw[if_neg hw] at hone;unfold wpList at hone;exact .inr ⟨hw,next undef w hone.2.2.1 hone.2.2.2⟩
  ·
   obtain⟨p,hmk⟩:∃p,mask[i]? = some (some p):=by
    have:i<mask.length:=by omega
    cases hq:mask[i]? with
    | none=>rw[List.getElem?_eq_none_iff] at hq;omega
    | some x =>
     cases x with
     | none=>unfold isT at hT;rw[hq] at hT;cases hT
     | some p=>exact⟨p,rfl⟩
   have hy:=hvY i o p hi hmk;rw[Nat.zero_add] at hy
   have hag:=exec_agree (l:=l) (a0:=a0) (us:=us') (us':=fun j=>if j<i then val j else selfU l a0 j) (selO i o hi) (fun j q t hj hdst ht=>by
    rcases looks hi hj hdst ht with h1 | h1
    ·have hl1:=direct hi h1;have hlt:=laterB_gt hback _ _ hl1;rw[if_pos hlt];refine hv j ?_ (onp h1);rcases Bool.eq_false_or_eq_true (isT mask j) with hTj | hTj
     ·rw[notlater (lt_of hj) hi' hTj hT] at hl1;cases hl1
     ·exact hTj
    ·have hlt:=laterB_gt hback _ _ h1;rw[if_neg (by omega)]
     exact hu j (later0 h1))
   have hy':=hy.of_same hag.1 hag.2
   have next:∀w',(dn.length≤b→C w')→(w'=w∨dn=[]) →
     Shut l (setD d i)∧(∀k,isT mask k=false→setD d i k=true→updU us' i (val i) k=val k)∧(∀k,setD d i k=false→updU us' i (val i) k=selfU l a0 k) ∧
     ∃dn rest,tailIx 0 mask=dn++rest∧(∀i_1∈dn,setD d i i_1=true)∧(∀i_1∈rest,setD d i i_1=false)∧(dn.length≤b→C w') ∧
      (dn=[]∨wpTail P l.toArray C (Q .normal) (b-dn.length) (rest.filterMap (fun i=>l[i]?)) (putAll 0 l (fullU mask val (updU us' i (val i))) a0) w'):=by
    intro w' hc hww;refine⟨hs',fun k hk hdk=>?_,fun k hk=>?_,dn,rest,hsp,fun k hk=>?_,fun k hk=>?_,hc,?_⟩
    ·unfold updU
     by_cases e:k=i
     ·rw[if_pos e,e]
     ·rw[if_neg e];unfold setD at hdk;rw[if_neg e] at hdk;exact hv k hk hdk
    ·unfold setD at hk;unfold updU
     by_cases e:k=i
     ·rw[if_pos e] at hk;cases hk
     ·rw[if_neg e] at hk ⊢;exact hu k hk
    ·unfold setD
     by_cases e:k=i
     ·rw[if_pos e]
     ·rw[if_neg e];exact hdn k hk
    ·have hki:k≠i:=by
      rintro rfl;have:isT mask k=true:=isT_iff.2 (by rw[hsp];exact List.mem_append_right _ hk);rw[hT] at this;cases this
     unfold setD;rw[if_neg hki];exact hrest k hk
    ·rcases htl with h1 | h1
     ·exact .inl h1
     ·rcases hww with rfl | h2
      ·right
       have e:putAll 0 l (fullU mask val (updU us' i (val i))) a0=putAll 0 l (fullU mask val us') a0:=putAll_congr l 0 _ _ _ (fun j _=>by
        unfold fullU updU;split
        ·rename_i hTj
         rw[if_neg (by rintro rfl;rw[hT] at hTj;cases hTj)]
        ·rfl)
       rw[e];exact h1
      ·exact .inl h2
   have hcls:clsOf C p w:=by
    unfold clsOf
    cases p with
    | true=>trivial
    | false =>
     refine hCw ?_;rcases Nat.lt_or_ge b dn.length with hlt | hge
     ·exfalso
      have h1:=allIx_at himp i hi'
      have hP:isP mask i=false:=by unfold isP;rw[hmk]
      have hget:(tailIx 0 mask)[b]? = some (dn[b]):=by rw[hsp,List.getElem?_append_left hlt,List.getElem?_eq_getElem hlt]
      simp only[hT,hP,hget,Bool.false_or] at h1;have:=later0 h1;rw[hdn _ (List.getElem_mem hlt)] at this;cases this
     ·exact hge
   rcases hy' with⟨hw,hq⟩ | ⟨hw,hundef⟩
   ·refine .inl ⟨hw,fun K Q2 hK=>?_⟩;have hq1:=hq w hcls;unfold Oper.quietAt at hq1;unfold Oper.wp
    generalize hr:(execOp (putAll 0 l us' a0).eval o).run P w=r at *
    cases r with
    | ok n w1 =>
     cases n<;>simp only[Oper.quietUpon] at hq1<;>simp only[Oper.upon]
     case value u =>
      obtain⟨rfl,rfl⟩:=hq1;exact hK _ _ (next _ hCw (.inl rfl))
     case skip =>
      obtain⟨rfl,e⟩:=hq1;rw[←e];exact hK _ _ (next _ hCw (.inl rfl))
     case enter f args =>
      obtain⟨rfl,hcl⟩:=hq1;refine hcl.mono fun e w2 ⟨he,hw2⟩=>?_;subst he
      have hic:isCall2 o=true:=by
       rcases Bool.eq_false_or_eq_true (isCall2 o) with h1 | h1
       ·exact h1
       ·exact absurd hr (fun h2=>not_enter2 h1 h2)
      have h1:=allIx_at hcall i hi';simp only[hT,hi,hic,Bool.false_or,Bool.not_true,Bool.and_eq_true,Bool.not_eq_true'] at h1
      have hp0:p=false:=by
       have:=h1.1;unfold isP at this;rw[hmk] at this;cases p
       ·rfl
       ·cases this
      subst hp0
      have hdn0:dn=[]:=by
       cases dn with
       | nil=>rfl
       | cons t dn' =>
        exfalso
        have h2:=h1.2;rw[hsp] at h2;simp only[List.cons_append,List.getElem?_cons_zero] at h2;have:=later0 h2;rw[hdn t (by simp)] at this;cases this
      exact hK _ _ (next _ (fun _=>hw2) (.inr hdn0))
    | halt x w1=>simp only[Oper.quietUpon] at hq1
   ·refine .inr ⟨by rw[hw];decide,?_⟩;have:=next w hCw (.inl rfl);rw[hundef] at this;exact this
 ·rintro d us w ⟨hs,hv,hu,dn,rest,hsp,hdn,hrest,hCw,htl⟩ hall
  have hrest0:rest=[]:=by
   cases rest with
   | nil=>rfl
   | cons t r =>
    exfalso
    have h1:t∈tailIx 0 mask:=by rw[hsp];simp
    have h2:=(tailIx_mem mask 0 t).1 h1
    have:t<l.length:=by
     rw[hlen];exact (List.getElem?_eq_some_iff.1 (by simpa using h2.2)).1
    have h3:=hall t this;rw[hrest t (by simp)] at h3;cases h3
  subst hrest0
  have hfin:∀us2:Nat→Value,(∀j,j<l.length→isT mask j=false→us2 j=us j)→(∀j,isT mask j=true→us2 j=us j)→putAll 0 l us2 a0=putAll 0 l us a0:=fun us2 h1 h2=>putAll_congr_lt l 0 _ _ _ (fun j _ hj=>by
   rcases Bool.eq_false_or_eq_true (isT mask j) with hTj | hTj
   ·exact h2 j hTj
   ·exact h1 j (by omega) hTj)
  rcases htl with rfl | h1
  ·have h1:=hend w (hCw (Nat.zero_le _));rw[hsp] at h1;simp only[List.append_nil,List.filterMap_nil] at h1
   have e:=hfin val (fun j hj hTj=>(hv j hTj (hall j hj)).symm) (fun j hTj=>by
    exfalso
    have:=isT_iff.1 hTj;rw[hsp] at this
    simp at this)
   rw[e] at h1
   cases b<;>exact h1
  ·have e:=hfin (fullU mask val us) (fun j hj hTj=>by unfold fullU;rw[if_neg (by rw[hTj];decide)];exact (hv j hTj (hall j hj)).symm) (fun j hTj=>by unfold fullU;rw[if_pos hTj]);rw[e] at h1;simp only[List.filterMap_nil] at h1;generalize b-dn.length=bb at h1
   cases bb<;>exact h1
theorem lineB_2 {l:List Oper}{mask:List (Option Bool)}{b:Nat}(h:lineB l mask b=true):lineB2 l mask b=true:=by
 unfold lineB at h;unfold lineB2;simp only[Bool.and_eq_true] at h ⊢;refine⟨h.1,?_⟩;unfold callB2 allIx;rw[List.all_eq_true];intro i hi;have h1:=allIx_at h.2 i (List.mem_range.1 hi);rcases hl:l[i]? with _ | o
 ·simp
 ·rw[hl] at h1;simp only[Bool.or_eq_true] at h1 ⊢;rcases h1 with h1 | h1 | h1
  ·exact .inl h1
  ·refine .inr (.inl ?_);unfold isCall2;cases hc:isCall o
   ·rfl
   ·rw[hc] at h1;cases h1
  ·exact .inr (.inr h1)
theorem wp_region_line {id:Nat}{a0:Act}{w0:World}{l:List Oper}(C:World→Prop)(mask:List (Option Bool))(b:Nat)
  (hm:P.follows .mixedOrders=true) (hB:lineB l mask b=true) (hC:C w0.drew)
  (h:wpMix P l.toArray C (fun a=>∀w,C w→wpTail P l.toArray C (Q .normal) b (tailL l mask) a w) (earlyL l mask) a0):(Code.region id l.toArray true).wp P Q a0 w0:=wp_region_line2 C mask b hm (lineB_2 hB) hC h
theorem wp_hide {c:Code}{a:Act}{w:World}(h:∀Q0:Exit→Act→World→Prop,(∀a w,Q .normal a w→Q0 .normal a w)→c.wp P Q0 a w):c.wp P Q a w:=h Q (fun _ _ h=>h)
end
structure KeptBut (w w':World)(S:Nat→Prop):Prop where
 os:w'.os=w.os
 tape:w'.tape=w.tape
 output:w'.output=w.output
 size:w.heap.size≤w'.heap.size
 block:∀k,k<w.heap.size→¬S k→w'.heap[k]? = w.heap[k]?
theorem KeptBut.refl (w:World)(S:Nat→Prop):KeptBut w w S:=⟨rfl,rfl,rfl,Nat.le_refl _,fun _ _ _=>rfl⟩
theorem KeptBut.drew {w w':World}{S:Nat→Prop}(h:KeptBut w w' S):KeptBut w w'.drew S:=⟨h.os,h.tape,h.output,h.size,h.block⟩
theorem KeptBut.below {w w':World}{S:Nat→Prop}(h:KeptBut w w' S){B:Nat}(hS:∀k,S k→B≤k)(hB:B≤w.heap.size):Below B w w' :=
 ⟨h.os,h.tape,h.output,h.size,fun k hk=>h.block k (by omega) (fun hs=>by have:=hS k hs;omega)⟩
theorem KeptBut.then_below {w w' w'':World}{S:Nat→Prop}(h:KeptBut w w' S)(hb:Below w'.heap.size w' w''):KeptBut w w'' S :=
 ⟨hb.os.trans h.os,hb.tape.trans h.tape,hb.output.trans h.output,Nat.le_trans h.size hb.size,fun k hk hs=>(hb.block k (by have:=h.size;omega)).trans (h.block k hk hs)⟩
theorem KeptBut.then_grown {w w' w'':World}{S:Nat→Prop}(h:KeptBut w w' S){row:Option Nat}(hg:w'.grownBy w'' row)(hr:∀k,row=some k→S k):KeptBut w w'' S :=
 ⟨hg.os.trans h.os,hg.tape.trans h.tape,hg.output.trans h.output,Nat.le_trans h.size hg.size,fun k hk hs=>(hg.block k (by have:=h.size;omega) (fun e=>hs (hr k e.symm))).trans (h.block k hk hs)⟩
theorem KeptBut.then_set {w w':World}{S:Nat→Prop}(h:KeptBut w w' S){b o:Nat}{v:Value}(hb:S b):KeptBut w (w'.setCell ⟨b,o,none⟩ v) S :=
 ⟨h.os,h.tape,h.output,by simpa[World.setCell] using h.size,fun k hk hs=>(Below.heap_setCell _ _ _ _ (fun e=>hs (by rw[e];exact hb))).trans (h.block k hk hs)⟩
theorem KeptBut.cell {w w':World}{S:Nat→Prop}(h:KeptBut w w' S)(a:Addr)(ha:a.block<w.heap.size)(hs:¬S a.block):w'.cell? a=w.cell? a:=World.cell?_of_block (h.block a.block ha hs)
theorem KeptBut.reads {w w':World}{S:Nat→Prop}(h:KeptBut w w' S){m n:Nat}{A:Option Addr}{xs:List Value}(hr:Reads w w.heap.size m A n xs)(hs:∀ad,A=some ad→¬S ad.block):Reads w' w'.heap.size m A n xs :=
 ⟨hr.1,fun hn=>by
  obtain⟨ad,e,hb,hc⟩:=hr.2 hn;refine⟨ad,e,by have:=h.size;omega,fun j u hu=>?_⟩;rw[h.cell _ (by rw[block_of_add];exact hb) (by rw[block_of_add];exact hs ad e)]
  exact hc j u hu⟩
theorem KeptBut.of_below {w w':World}{S:Nat→Prop}(h:Below w.heap.size w w'):KeptBut w w' S:=(KeptBut.refl w S).then_below h
theorem KeptBut.mono {w w':World}{S S':Nat→Prop}(h:KeptBut w w' S)(hS:∀k,k<w.heap.size→S k→S' k):KeptBut w w' S' :=
 ⟨h.os,h.tape,h.output,h.size,fun k hk hs=>h.block k hk (fun h'=>hs (hS k hk h'))⟩
theorem KeptBut.trans {w w' w'':World}{S S':Nat→Prop}(h:KeptBut w w' S)(h':KeptBut w' w'' S')(hS:∀k,k<w.heap.size→S' k→S k):KeptBut w w'' S :=
 ⟨h'.os.trans h.os,h'.tape.trans h.tape,h'.output.trans h.output,Nat.le_trans h.size h'.size,fun k hk hs=>(h'.block k (by have:=h.size;omega) (fun e=>hs (hS k hk e))).trans (h.block k hk hs)⟩
theorem Blk.keptB {w w':World}{S:Nat→Prop}{g t:Nat}{cs:Array Value}(h:Blk w g t cs)(hk:KeptBut w w' S)(hs:¬S g):Blk w' g t cs:=(hk.block g h.lt hs).trans h
theorem own_lt {w:World}{B e size n:Nat}{v:Value}{xs:List Value}(h:w.ownsRow B e size v n xs):∀k,v.ownBlock=some k→B≤k∧k<w.heap.size:=World.ownsRow.lt h
theorem own_block {w w':World}{B e size n:Nat}{v:Value}{xs:List Value}(h:w.ownsRow B e size v n xs)(hb:∀k,v.ownBlock=some k→w'.heap[k]? = w.heap[k]?):w'.ownsRow B e size v n xs:=by
 rcases h with⟨h1,⟨h2,h3⟩ | ⟨g,cap,cur,hv,ha,hh,rest⟩⟩
 ·exact⟨h1,.inl ⟨h2,h3⟩⟩
 ·refine⟨h1,.inr ⟨g,cap,cur,hv,ha,?_,rest⟩⟩;rw[hb g (by rw[hv];rfl)];exact hh
theorem own_base {w:World}{B e size n:Nat}{v:Value}{xs:List Value}(h:w.ownsRow B e size v n xs):w.ownsRow 0 e size v n xs :=
 ⟨h.1,h.2.imp id fun ⟨g,cap,cur,hv,_,rest⟩=>⟨g,cap,cur,hv,Nat.zero_le _,rest⟩⟩
theorem own_kept {w w':World}{S:Nat→Prop}{B e size n:Nat}{v:Value}{xs:List Value}(h:w.ownsRow B e size v n xs)(hk:KeptBut w w' S)(hs:∀k,v.ownBlock=some k→¬S k):w'.ownsRow B e size v n xs :=
 own_block h fun k hk'=>hk.block k (own_lt h k hk').2 (hs k hk')
theorem bcell {W w1:World}(hb:Below W.heap.size W w1):(∀b o,b<W.heap.size→w1.cell? ⟨b,o,none⟩=W.cell? ⟨b,o,none⟩)∧(∀b o,b<W.heap.size→w1.frozen? ⟨b,o,none⟩=W.frozen? ⟨b,o,none⟩) :=
 ⟨fun b o h=>hb.cell (p:=⟨b,o,none⟩) h,fun b o h=>hb.frozen (p:=⟨b,o,none⟩) h⟩
def bs (l:List UInt8):ByteArray:=⟨l.toArray⟩
theorem bs_of (s:ByteArray):bs s.data.toList=s:=by unfold bs;cases s;simp
theorem bs_size (l:List UInt8):(bs l).size=l.length:=by simp[bs,ByteArray.size]
theorem bs_data (l:List UInt8):(bs l).data.toList=l:=by simp[bs]
theorem bs_toList (l:List UInt8):(bs l).toList=l:=by rw[ByteArray.toList_eq,bs_data]
theorem bs_append (a b:List UInt8):bs a++bs b=bs (a++b):=by
 unfold bs;apply ByteArray.ext
 simp
end Go.Proofs.YtlpojfgeocpkeaaGreatDoor
namespace Go.Proofs.YtlpojfgeocpkeaaGreatDoor
set_option linter.unusedVariables false
set_option linter.unusedSimpArgs false
abbrev Nm:=List UInt8
abbrev NM:=List (List UInt8 × Nat)
def insM (x:List UInt8 × Nat):NM→NM
 | []=>[x]
 | y::r=>if bytesBefore x.1 y.1 then x::y::r else y::insM x r
def delM (k:List UInt8)(m:NM):NM:=m.filter fun p=>!(p.1==k)
def putM (k:List UInt8)(v:Nat)(m:NM):NM:=insM (k,v) (delM k m)
def getM (k:List UInt8)(m:NM):Option Nat:=(m.find? fun p=>p.1==k).map (·.2)
def mvM (g:Nat→Nat)(m:NM):NM:=m.map fun p=>(p.1,g p.2)
theorem mvM_ins (g:Nat→Nat)(x:List UInt8 × Nat):∀m,mvM g (insM x m)=insM (x.1,g x.2) (mvM g m)
 | []=>rfl
 | y::r=>by
  unfold mvM insM;simp only[List.map_cons];split
  ·rfl
  ·rw[List.map_cons];have:=mvM_ins g x r;unfold mvM at this;rw[this]
theorem mvM_del (g:Nat→Nat)(k:List UInt8)(m:NM):mvM g (delM k m)=delM k (mvM g m):=by
 unfold mvM delM;rw[List.filter_map];rfl
theorem mvM_put (g:Nat→Nat)(k:List UInt8)(v:Nat)(m:NM):mvM g (putM k v m)=putM k (g v) (mvM g m):=by
 unfold putM;rw[mvM_ins,mvM_del]
theorem mvM_get (g:Nat→Nat)(k:List UInt8)(m:NM):getM k (mvM g m)=(getM k m).map g:=by
 unfold getM mvM;rw[List.find?_map];simp only[Function.comp_def,Option.map_map]
theorem mvM_len (g:Nat→Nat)(m:NM):(mvM g m).length=m.length:=by simp[mvM]
theorem insM_len (x:List UInt8 × Nat):∀m,(insM x m).length=m.length+1
 | []=>rfl
 | y::r=>by unfold insM;split<;>simp[insM_len x r]
theorem delM_len (k:List UInt8)(m:NM):(delM k m).length≤m.length:=List.length_filter_le _ _
theorem putM_len (k:List UInt8)(v:Nat)(m:NM):(putM k v m).length≤m.length+1:=by
 have:=delM_len k m;unfold putM;rw[insM_len];omega
theorem insM_mem (x p:List UInt8 × Nat):∀m,p∈insM x m↔p=x∨p∈m
 | []=>by simp[insM]
 | y::r=>by
  unfold insM;split
  ·simp
  ·simp[insM_mem x p r];constructor<;>rintro (h | h | h)<;>simp[h]
theorem delM_mem (k:List UInt8)(p:List UInt8 × Nat)(m:NM):p∈delM k m↔p∈m∧p.1≠k:=by
 unfold delM;simp[List.mem_filter]
theorem putM_mem (k:List UInt8)(v:Nat)(p:List UInt8 × Nat)(m:NM):p∈putM k v m↔p=(k,v)∨(p∈m∧p.1≠k):=by
 unfold putM;rw[insM_mem,delM_mem]
theorem getM_mem {k:List UInt8}{m:NM}{v:Nat}(h:getM k m=some v):(k,v)∈m:=by
 unfold getM at h
 cases hf:m.find? fun p=>p.1==k with
 | none=>rw[hf] at h;cases h
 | some p =>
  rw[hf] at h;simp at h;have h1:=List.find?_some hf;have h2:=List.mem_of_find?_eq_some hf;simp at h1;rw[←h,←h1];exact h2
theorem getM_none {k:List UInt8}{m:NM}(h:getM k m=none):∀p∈m,p.1≠k:=by
 intro p hp e;unfold getM at h;simp at h;exact h p.1 p.2 hp e
structure Fil where
 d:List UInt8
 k:Nat
structure Chg where
 fr:Nm
 toN:Nm
 f:Option Nat
structure Dsk where
 room:Nat
 fuse:Nat
 off:Bool
 files:List Fil
 names:NM
 last:NM
 chg:List Chg
structure Cra where
 names:Int
 keep:List Int
 spoil:List (Int × Nat)
def doesC (m:NM)(c:Chg):NM :=
 let m1:=if c.fr=[] then m else delM c.fr m
 if c.toN=[] then m1 else putM c.toN (c.f.getD 0) m1
def okB (c:UInt8):Bool:=!((c<97||122<c)&&(c<48||57<c)&&c != 46&&c != 45)
def rightB (n:Nm):Bool:=!n.isEmpty&&decide (n.length≤24)&&n.all okB
namespace Dsk
def new (room:Int):Dsk:=⟨(min (max room 0) 1048576).toNat,0,false,[],[],[],[]⟩
def burn (s:Dsk):Dsk:=if 0<s.fuse then { s with fuse:=s.fuse-1,off:=s.fuse-1==0 } else s
def fileE (s:Dsk)(n:Nm):Nat × Option Nat:=if s.off then (7,none) else match getM n s.names with
 | none=>(4,none)
 | some f=>(0,some f)
def changed (s:Dsk)(c:Chg):Dsk × Nat:=if s.burn.off then (s.burn,7) else ({ s.burn with names:=doesC s.burn.names c,chg:=s.burn.chg++[c] },0)
def dlen (s:Dsk)(i:Nat):Nat:=match s.files[i]? with
 | some f=>f.d.length
 | none=>0
def used (s:Dsk):Nat:=(s.names.map fun p=>s.dlen p.2).sum
def create (s:Dsk)(n:Nm):Dsk × Nat:=if s.off then (s,7) else match getM n s.names with
 | some _=>(s,5)
 | none=>if rightB n then changed { s with files:=s.files++[⟨[],0⟩] } ⟨[],n,some s.files.length⟩ else (s,1)
def setF (s:Dsk)(i:Nat)(g:Fil→Fil):Dsk:={ s with files:=match s.files[i]? with | some f=>s.files.set i (g f) | none=>s.files }
def append (s:Dsk)(n:Nm)(x:List UInt8):Dsk × Nat:=if s.off then (s,7) else match getM n s.names with
 | none=>(s,4)
 | some i=>if s.room<s.used+x.length then (s,6) else if s.burn.off then (s.burn,7) else (s.burn.setF i fun f=>⟨f.d++x,f.k⟩,0)
def sync (s:Dsk)(n:Nm):Dsk × Nat:=if s.off then (s,7) else match getM n s.names with
 | none=>(s,4)
 | some i=>if s.burn.off then (s.burn,7) else (s.burn.setF i fun f=>⟨f.d,f.d.length⟩,0)
def rename (s:Dsk)(a b:Nm):Dsk × Nat:=if s.off then (s,7) else if rightB b then match getM a s.names with
 | none=>(s,4)
 | some i=>if a=b then (s.burn,if s.burn.off then 7 else 0) else changed s ⟨a,b,some i⟩
 else (s,1)
def delete (s:Dsk)(n:Nm):Dsk × Nat:=if s.off then (s,7) else match getM n s.names with
 | none=>(s,4)
 | some _=>changed s ⟨n,[],none⟩
def dirsync (s:Dsk):Dsk × Nat:=if s.off then (s,7) else if s.burn.off then (s.burn,7) else ({ s.burn with last:=s.burn.names,chg:=[] },0)
def read (s:Dsk)(n:Nm):List UInt8 × Nat:=if s.off then ([],7) else match getM n s.names with
 | none=>([],4)
 | some i=>(match s.files[i]? with | some f=>f.d | none=>[],0)
def setFuse (s:Dsk)(n:Int):Dsk:={ s with fuse:=(max n 0).toNat }
def start (s:Dsk):Dsk:={ s with off:=false }
end Dsk
def keepN (c:Cra)(k:Nat)(t:Nat):Nat:=match c.keep[k]? with
 | some x=>(min (max x 0) t).toNat
 | none=>0
def xorAt (l:List UInt8)(i:Nat)(m:UInt8):List UInt8:=match l[i]? with
 | some x=>l.set i (x ^^^ m)
 | none=>l
def spoilT (l:List UInt8)(at_:Int)(mask:Nat):List UInt8 :=
 let a:=(at_ % (l.length:Int)).toNat
 (List.range (min 4 (l.length-a))).foldl (fun l i=>xorAt l (a+i) (UInt8.ofNat (mask / 2 ^ (8*i)))) l
def tailC (c:Cra)(k:Nat)(t:List UInt8):List UInt8 :=
 let l:=t.take (keepN c k t.length)
 if l.isEmpty then l else match c.spoil[k]? with
  | some (a,m)=>spoilT l a m
  | none=>l
def crashF (c:Cra)(k:Nat)(f:Fil):Fil:=⟨f.d.take f.k++tailC c k (f.d.drop f.k),(f.d.take f.k++tailC c k (f.d.drop f.k)).length⟩
def crashGo (c:Cra):NM→List Fil→Nat→List Fil
 | [],fs,_=>fs
 | p::r,fs,k=>match fs[p.2]? with
  | some f=>if f.k<f.d.length then crashGo c r (fs.set p.2 (crashF c k f)) (k+1) else crashGo c r fs k
  | none=>crashGo c r fs k
def Dsk.crash (s:Dsk)(c:Cra):Dsk :=
 let l:=(s.chg.take (min (max c.names 0) s.chg.length).toNat).foldl doesC s.last
 { s with off:=true,last:=l,names:=l,chg:=[],files:=crashGo c l s.files 0 }
end Go.Proofs.YtlpojfgeocpkeaaGreatDoor
