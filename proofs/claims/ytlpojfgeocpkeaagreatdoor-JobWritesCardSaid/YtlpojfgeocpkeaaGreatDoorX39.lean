/- A disk's files by their names, plain: what each operation leaves of them. No program in sight. Package job, plain: where a job and its disk stand; what a write, a step, and giving up do to the files. Package job, plain: a write, a step: what becomes of the files, how far it gets. Contracts of the law: awake. Contracts of the law: awake. -/
import Derived.Test.YtlpojfgeocpkeaaGreatDoorX06
import Derived.Test.YtlpojfgeocpkeaaGreatDoorX36
import Derived.Test.YtlpojfgeocpkeaaGreatDoorX38
namespace Go.Proofs.YtlpojfgeocpkeaaGreatDoor
set_option linter.unusedVariables false
set_option linter.unusedSimpArgs false
theorem sum_le_of {T:Type}[DecidableEq T](B:T→Nat):∀(l N:List T),l.Nodup→(∀a∈l,a∈N)→(l.map B).sum≤(N.map B).sum
 | [],N,_,_=>Nat.zero_le _
 | a::l,N,h,hN=>by
  have ha:=hN a (List.mem_cons_self ..);have hp:=List.perm_cons_erase ha;have h1:=(hp.map B).sum_nat;rw[List.nodup_cons] at h;have ih:=sum_le_of B l (N.erase a) h.2 (fun b hb=>(List.mem_erase_of_ne (fun e=>h.1 (by rw[←e];exact hb))).2 (hN b (List.mem_cons_of_mem _ hb)));rw[h1];simp only[List.map_cons,List.sum_cons];omega
theorem len_le_of {T:Type}[DecidableEq T](l N:List T)(h:l.Nodup)(hN:∀a∈l,a∈N):l.length≤N.length:=by
 have h1:=sum_le_of (fun _=>1) l N h hN
 have h2:∀q:List T,(q.map fun _=>1).sum=q.length:=fun q=>by induction q with
  | nil=>rfl
  | cons x q ih=>simp only[List.map_cons,List.sum_cons,List.length_cons,ih];omega
 rw[h2,h2] at h1;exact h1
def Uniq (m:NM):Prop:=(m.map (·.1)).Nodup
theorem Uniq.del {m:NM}(h:Uniq m)(k:List UInt8):Uniq (delM k m):=by
 unfold Uniq delM;exact h.sublist (List.Sublist.map _ List.filter_sublist)
theorem Uniq.put {m:NM}(h:Uniq m)(k:List UInt8)(v:Nat):Uniq (putM k v m):=by
 have hp:=(insM_perm (k,v) (delM k m)).map (·.1);unfold Uniq putM;rw[hp.nodup_iff,List.map_cons,List.nodup_cons];refine⟨?_,h.del k⟩;intro hk;obtain⟨p,hp,e⟩:=List.mem_map.1 hk;exact ((delM_mem k p m).1 hp).2 e
theorem Uniq.does {m:NM}(h:Uniq m)(c:Chg):Uniq (doesC m c):=by
 unfold doesC
 simp only
 have h1:Uniq (if c.fr=[] then m else delM c.fr m):=by
  split
  ·exact h
  ·exact h.del _
 split
 ·exact h1
 ·exact h1.put _ _
structure Dsk.Uq (s:Dsk):Prop where
 names:Uniq s.names
 last:Uniq s.last
namespace Dsk
variable {s:Dsk}
theorem Uq.of_eq (h:s.Uq){t:Dsk}(h1:t.names=s.names)(h2:t.last=s.last):t.Uq:=⟨by rw[h1];exact h.names,by rw[h2];exact h.last⟩
theorem Uq.burn (h:s.Uq):s.burn.Uq:=h.of_eq (burn_same).2.1 (burn_same).2.2.1
theorem Uq.changed (h:s.Uq)(c:Chg):(s.changed c).1.Uq:=by
 unfold Dsk.changed;split
 ·exact h.burn
 ·exact⟨h.burn.names.does c,h.burn.last⟩
theorem Uq.create (h:s.Uq)(n:Nm):(s.create n).1.Uq:=by
 unfold Dsk.create;split
 ·exact h
 ·split
  ·exact h
  ·split
   ·exact Uq.changed (s:={ s with files:=s.files++[⟨[],0⟩] }) ⟨h.names,h.last⟩ _
   ·exact h
theorem Uq.append (h:s.Uq)(n:Nm)(x:List UInt8):(s.append n x).1.Uq:=by
 unfold Dsk.append;split
 ·exact h
 ·split
  ·exact h
  ·split
   ·exact h
   ·split
    ·exact h.burn
    ·exact h.burn.of_eq rfl rfl
theorem Uq.sync (h:s.Uq)(n:Nm):(s.sync n).1.Uq:=by
 unfold Dsk.sync;split
 ·exact h
 ·split
  ·exact h
  ·split
   ·exact h.burn
   ·exact h.burn.of_eq rfl rfl
theorem Uq.delete (h:s.Uq)(n:Nm):(s.delete n).1.Uq:=by
 unfold Dsk.delete;split
 ·exact h
 ·split
  ·exact h
  ·exact h.changed _
theorem Uq.dirsync (h:s.Uq):s.dirsync.1.Uq:=by
 unfold Dsk.dirsync;split
 ·exact h
 ·split
  ·exact h.burn
  ·exact⟨h.burn.names,h.burn.names⟩
theorem Uq.new (r:Int):(Dsk.new r).Uq:=⟨List.nodup_nil,List.nodup_nil⟩
def fil (s:Dsk)(n:Nm):Option Fil:=(getM n s.names).bind fun i=>s.files[i]?
theorem fil_of (ok:s.Ok){n:Nm}{i:Nat}(h:getM n s.names=some i):∃f,s.files[i]? = some f∧s.fil n=some f:=by
 have hi:=(ok.names _ (getM_mem h)).2;refine⟨s.files[i],List.getElem?_eq_getElem hi,?_⟩;unfold fil;rw[h];exact List.getElem?_eq_getElem hi
theorem fil_get {n:Nm}{f:Fil}(h:s.fil n=some f):∃i,getM n s.names=some i∧s.files[i]? = some f:=by
 unfold fil at h
 cases hg:getM n s.names with
 | none=>rw[hg] at h;cases h
 | some i=>rw[hg] at h;exact⟨i,rfl,h⟩
theorem fil_none (ok:s.Ok){n:Nm}:s.fil n=none↔getM n s.names=none:=by
 constructor
 ·intro h
  cases hg:getM n s.names with
  | none=>rfl
  | some i=>obtain⟨f,_,e⟩:=fil_of ok hg;rw[e] at h;cases h
 ·intro h;unfold fil;rw[h];rfl
theorem fil_same {t:Dsk}(h1:t.names=s.names)(h2:t.files=s.files)(k:Nm):t.fil k=s.fil k:=by unfold fil;rw[h1,h2]
theorem read_fil (ok:s.Ok)(hoff:s.off=false){n:Nm}{f:Fil}(h:s.fil n=some f):s.read n=(f.d,0):=by
 obtain⟨i,h1,h2⟩:=fil_get h;unfold Dsk.read;rw[if_neg (by rw[hoff];decide),h1];simp only[h2]
theorem getM_of_mem {m:NM}(h:Uniq m){p:List UInt8 × Nat}(hp:p∈m):getM p.1 m=some p.2:=by
 induction m with
 | nil=>cases hp
 | cons q r ih =>
  rw[getM_cons];unfold Uniq at h;rw[List.map_cons,List.nodup_cons] at h;rcases List.mem_cons.1 hp with e | e
  ·rw[e,if_pos rfl]
  ·rw[if_neg (fun e2=>h.1 (by rw[e2];exact List.mem_map.2 ⟨p,e,rfl⟩))];exact ih h.2 e
theorem getM_del_self (k:List UInt8)(m:NM):getM k (delM k m)=none:=by
 cases h:getM k (delM k m) with
 | none=>rfl
 | some i=>exact absurd rfl ((delM_mem k (k,i) m).1 (getM_mem h)).2
theorem getM_put_self (k:List UInt8)(v:Nat)(m:NM):getM k (putM k v m)=some v:=by
 have hm:(k,v)∈putM k v m:=(putM_mem k v (k,v) m).2 (.inl rfl)
 cases hg:getM k (putM k v m) with
 | none=>exact absurd rfl (getM_none hg _ hm)
 | some u =>
  rcases (putM_mem k v (k,u) m).1 (getM_mem hg) with e | ⟨_,e⟩
  ·injection e with _ e;rw[e]
  ·exact absurd rfl e
def fsz (s:Dsk)(n:Nm):Nat:=match s.fil n with
 | some f=>f.d.length
 | none=>0
theorem used_fsz (u:s.Uq)(ok:s.Ok):s.used=((s.names.map (·.1)).map s.fsz).sum:=by
 unfold Dsk.used;rw[List.map_map]
 congr 1
 refine List.map_congr_left fun p hp=>?_;obtain⟨f,h1,h2⟩:=fil_of ok (getM_of_mem u.names hp);simp only[Function.comp_apply,dlen,fsz,h1,h2]
theorem mem_names {n:Nm}(ok:s.Ok):n∈s.names.map (·.1)↔s.fil n≠none:=by
 constructor
 ·intro h e;rw[fil_none ok] at e;obtain⟨p,hp,e2⟩:=List.mem_map.1 h;exact getM_none e p hp e2
 ·intro h
  cases hg:getM n s.names with
  | none=>exact absurd ((fil_none ok).2 hg) h
  | some i=>exact List.mem_map.2 ⟨_,getM_mem hg,rfl⟩
theorem used_le (u:s.Uq)(ok:s.Ok)(N:List Nm)(B:Nm→Nat)(h:∀k f,s.fil k=some f→k∈N∧f.d.length≤B k):s.used≤(N.map B).sum:=by
 rw[used_fsz u ok]
 have h1:((s.names.map (·.1)).map s.fsz).sum≤((s.names.map (·.1)).map B).sum:=by
  have:∀l:List Nm,(∀k∈l,s.fsz k≤B k)→(l.map s.fsz).sum≤(l.map B).sum:=fun l=>by
   induction l with
   | nil=>exact fun _=>Nat.le_refl _
   | cons a l ih =>
    intro hl;have:=ih (fun k hk=>hl k (List.mem_cons_of_mem _ hk));have:=hl a (List.mem_cons_self ..);simp only[List.map_cons,List.sum_cons];omega
  refine this _ fun k hk=>?_;unfold fsz
  cases hf:s.fil k with
  | none=>exact Nat.zero_le _
  | some f=>exact (h k f hf).2
 refine Nat.le_trans h1 (sum_le_of B _ N u.names fun k hk=>?_)
 cases hf:s.fil k with
 | none=>exact absurd hf ((mem_names ok).1 hk)
 | some f=>exact (h k f hf).1
theorem names_le (u:s.Uq)(ok:s.Ok)(N:List Nm)(h:∀k,s.fil k≠none→k∈N):s.names.length≤N.length:=by
 have:=len_le_of _ N u.names (fun k hk=>h k ((mem_names ok).1 hk))
 rwa [List.length_map] at this
theorem names_ge (ok:s.Ok)(N:List Nm)(hN:N.Nodup)(h:∀k∈N,s.fil k≠none):N.length≤s.names.length:=by
 have:=len_le_of N (s.names.map (·.1)) hN (fun k hk=>(mem_names ok).2 (h k hk))
 rwa [List.length_map] at this
structure Did (s t:Dsk)(r:Nat)(F:Nm→Option Fil):Prop where
 room:t.room=s.room
 res:(r=7∧t.off=true∧0<s.fuse)∨(r=0∧t.off=false∧t.fuse≤s.fuse∧∀k,t.fil k=F k)
def updF (F:Nm→Option Fil)(n:Nm)(v:Option Fil):Nm→Option Fil:=fun k=>if k=n then v else F k
theorem burn_cases (hoff:s.off=false):(s.burn.off=true∧0<s.fuse)∨(s.burn.off=false∧s.burn.fuse≤s.fuse):=by
 by_cases hf:0<s.fuse
 ·rw[burn_pos hf]
  by_cases h1:s.fuse=1
  ·exact .inl ⟨by simp[h1],hf⟩
  ·exact .inr ⟨by simp;omega,by show s.fuse-1≤_;omega⟩
 ·rw[burn_zero hf];exact .inr ⟨hoff,Nat.le_refl _⟩
theorem create_did (ok:s.Ok)(hoff:s.off=false){n:Nm}(hn:s.fil n=none)(hr:rightB n=true):Did s (s.create n).1 (s.create n).2 (updF s.fil n (some ⟨[],0⟩)):=by
 have hg:=(fil_none ok).1 hn
 have hne:n≠[]:=by intro e;rw[e] at hr;simp[rightB] at hr
 have e1:s.create n=changed { s with files:=s.files++[⟨[],0⟩] } ⟨[],n,some s.files.length⟩:=by
  unfold Dsk.create;rw[if_neg (by rw[hoff];decide),hg];simp only[hr,if_true]
 rw[e1];have hb:=burn_cases (s:={ s with files:=s.files++[⟨[],0⟩] }) hoff;have hs:=@burn_same { s with files:=s.files++[⟨[],0⟩] };unfold Dsk.changed;obtain⟨b1,b2,b3,b4,b5,b6⟩:=hs;rcases hb with⟨h1,h2⟩ | ⟨h1,h2⟩
 ·rw[if_pos h1];exact⟨b5,.inl ⟨rfl,h1,h2⟩⟩
 ·rw[if_neg (by rw[h1];decide)];refine⟨b5,.inr ⟨rfl,h1,h2,fun k=>?_⟩⟩;unfold fil updF;simp only[b1,b2]
  have hd:doesC s.names ⟨[],n,some s.files.length⟩=putM n s.files.length s.names:=by
   unfold doesC
   simp[hne]
  rw[hd]
  by_cases hk:k=n
  ·rw[if_pos hk,hk,getM_put_self];simp
  ·rw[if_neg hk,getM_put (fun e=>hk e.symm)]
   cases hgk:getM k s.names with
   | none=>rfl
   | some i =>
    have hi:=(ok.names _ (getM_mem hgk)).2;show (s.files++[⟨[],0⟩])[i]? = s.files[i]?;rw[List.getElem?_append_left hi]
theorem delete_did (ok:s.Ok)(dir:s.Dir)(hoff:s.off=false){n:Nm}(hn:s.fil n≠none):Did s (s.delete n).1 (s.delete n).2 (updF s.fil n none):=by
 obtain⟨i,hg⟩:∃i,getM n s.names=some i:=by
  cases hg:getM n s.names with
  | none=>exact absurd ((fil_none ok).2 hg) hn
  | some i=>exact⟨i,rfl⟩
 have e1:s.delete n=s.changed ⟨n,[],none⟩:=by
  unfold Dsk.delete;rw[if_neg (by rw[hoff];decide),hg]
 rw[e1];obtain⟨b1,b2,b3,b4,b5,b6⟩:=@burn_same s;unfold Dsk.changed;rcases burn_cases hoff with⟨h1,h2⟩ | ⟨h1,h2⟩
 ·rw[if_pos h1];exact⟨b5,.inl ⟨rfl,h1,h2⟩⟩
 ·rw[if_neg (by rw[h1];decide)];refine⟨b5,.inr ⟨rfl,h1,h2,fun k=>?_⟩⟩;unfold fil updF;simp only[b1,b2]
  by_cases hk:k=n
  ·rw[if_pos hk,hk];have hne:n≠[]:=dir.cur.2 _ (getM_mem hg)
   unfold doesC
   simp only[];rw[if_neg hne,if_pos trivial,getM_del_self];rfl
  ·rw[if_neg hk]
   unfold doesC
   simp only[]
   by_cases hne:n=[]
   ·rw[if_pos hne,if_pos trivial]
   ·rw[if_neg hne,if_pos trivial,getM_del (fun e=>hk e.symm)]
theorem setF_fil (ok:s.Ok)(dir:s.Dir){n:Nm}{f:Fil}{i:Nat}(hg:getM n s.names=some i)(hf:s.files[i]? = some f){t:Dsk}(h1:t.names=s.names)(h2:t.files=s.files)(g:Fil→Fil)(k:Nm):(t.setF i g).fil k=updF s.fil n (some (g f)) k:=by
 unfold fil updF Dsk.setF;simp only[h1,h2,hf];have hi:=(List.getElem?_eq_some_iff.1 hf).1
 by_cases hk:k=n
 ·rw[if_pos hk,hk,hg];simp[List.getElem?_set_self hi]
 ·rw[if_neg hk]
  cases hgk:getM k s.names with
  | none=>rfl
  | some j =>
   have hij:i≠j:=fun e=>by
    subst e;have:=dir.cur.inj (getM_mem hgk) (getM_mem hg) rfl;injection this with e1 _;exact hk e1
   show (s.files.set i (g f))[j]? = s.files[j]?;rw[List.getElem?_set_ne hij]
theorem append_did (ok:s.Ok)(dir:s.Dir)(hoff:s.off=false){n:Nm}{f:Fil}(hn:s.fil n=some f)(x:List UInt8) :
  (s.room<s.used+x.length∧s.append n x=(s,6))∨(¬s.room<s.used+x.length∧Did s (s.append n x).1 (s.append n x).2 (updF s.fil n (some ⟨f.d++x,f.k⟩))):=by
 obtain⟨i,hg,hf⟩:=fil_get hn;unfold Dsk.append;rw[if_neg (by rw[hoff];decide),hg];simp only
 by_cases hr:s.room<s.used+x.length
 ·rw[if_pos hr];exact .inl ⟨hr,rfl⟩
 ·refine .inr ⟨hr,?_⟩;rw[if_neg hr];obtain⟨b1,b2,b3,b4,b5,b6⟩:=@burn_same s;rcases burn_cases hoff with⟨h1,h2⟩ | ⟨h1,h2⟩
  ·rw[if_pos h1];exact⟨b5,.inl ⟨rfl,h1,h2⟩⟩
  ·rw[if_neg (by rw[h1];decide)];exact⟨b5,.inr ⟨rfl,h1,h2,fun k=>setF_fil ok dir hg hf b2 b1 _ k⟩⟩
theorem sync_did (ok:s.Ok)(dir:s.Dir)(hoff:s.off=false){n:Nm}{f:Fil}(hn:s.fil n=some f):Did s (s.sync n).1 (s.sync n).2 (updF s.fil n (some ⟨f.d,f.d.length⟩)):=by
 obtain⟨i,hg,hf⟩:=fil_get hn;unfold Dsk.sync;rw[if_neg (by rw[hoff];decide),hg];simp only;obtain⟨b1,b2,b3,b4,b5,b6⟩:=@burn_same s;rcases burn_cases hoff with⟨h1,h2⟩ | ⟨h1,h2⟩
 ·rw[if_pos h1];exact⟨b5,.inl ⟨rfl,h1,h2⟩⟩
 ·rw[if_neg (by rw[h1];decide)];exact⟨b5,.inr ⟨rfl,h1,h2,fun k=>setF_fil ok dir hg hf b2 b1 _ k⟩⟩
theorem dirsync_did (hoff:s.off=false):Did s s.dirsync.1 s.dirsync.2 s.fil∧(s.dirsync.2=0→s.dirsync.1.last=s.dirsync.1.names∧s.dirsync.1.chg=[]):=by
 unfold Dsk.dirsync;rw[if_neg (by rw[hoff];decide)];obtain⟨b1,b2,b3,b4,b5,b6⟩:=@burn_same s;rcases burn_cases hoff with⟨h1,h2⟩ | ⟨h1,h2⟩
 ·rw[if_pos h1];exact⟨⟨b5,.inl ⟨rfl,h1,h2⟩⟩,fun e=>absurd (show (7:Nat)=0 from e) (by decide)⟩
 ·rw[if_neg (by rw[h1];decide)];exact⟨⟨b5,.inr ⟨rfl,h1,h2,fun k=>fil_same b2 b1 k⟩⟩,fun _=>⟨rfl,rfl⟩⟩
end Dsk
end Go.Proofs.YtlpojfgeocpkeaaGreatDoor
namespace Go.Proofs.YtlpojfgeocpkeaaGreatDoor
open Go.RowKit Go.Lib
set_option linter.unusedVariables false
set_option linter.unusedSimpArgs false
theorem nameT_inj {n m:Nat}(hn:n<18446744073709551616)(hm:m<18446744073709551616)(h:nameT n=nameT m):n=m:=by
 have h1:=numP_name tabW n hn;have h2:=numP_name tabW m hm;unfold nameT at h;rw[h,h2] at h1;injection h1 with h1;exact h1.symm
theorem nameT_ne (n:Nat):nameT n≠[]:=by unfold nameT nameL tabW;simp
theorem nDigits_le_pow:∀(k u:Nat),u<10 ^ (k+1)→nDigits u≤k+1
 | 0,u,h=>by rw[nDigits_small (by simpa using h)];omega
 | k+1,u,h=>by
  by_cases h1:u<10
  ·rw[nDigits_small h1];omega
  ·rw[nDigits_big h1];have:=nDigits_le_pow k (u / 10) (by rw[Nat.pow_succ] at h;omega);omega
theorem nDigits_le18 {u:Nat}(hu:u<1000000000000000000):nDigits u≤18:=nDigits_le_pow 17 u hu
theorem rightB_nameT {n:Nat}(hn:n<1000000000000000000):rightB (nameT n)=true:=by
 unfold rightB;simp only[Bool.and_eq_true,decide_eq_true_eq,Bool.not_eq_true',List.isEmpty_eq_false_iff,List.all_eq_true];refine⟨⟨nameT_ne n,?_⟩,fun c hc=>?_⟩
 ·have h1:=nameL_len tabW n;have h2:nDigits n≤18:=nDigits_le18 hn;unfold nameT;rw[h1];have:tabW.length=5:=rfl;omega
 ·unfold nameT nameL at hc
  have hc2:c∈tabW∨c=46∨c∈pad8 n:=by simpa using hc
  rcases hc2 with hc2 | hc2 | hc2
  ·unfold tabW at hc2;simp at hc2
   rcases hc2 with rfl | rfl | rfl | rfl | rfl<;>decide
  ·subst hc2;decide
  ·obtain⟨h1,h2⟩:=pad8_all n c hc2;unfold okB
   have e1:decide (c<97)=true:=by rw[decide_eq_true_eq,UInt8.lt_iff_toNat_lt];show c.toNat<97;omega
   have e2:decide (c<48)=false:=by rw[decide_eq_false_iff_not,UInt8.lt_iff_toNat_lt];show ¬c.toNat<48;omega
   have e3:decide (57<c)=false:=by rw[decide_eq_false_iff_not,UInt8.lt_iff_toNat_lt];show ¬57<c.toNat;omega
   rw[e2,e3];simp
def cntJ (J:JW):Nat:=if J.en=0 then J.li else J.li+1
def namesT (n k:Nat):List L:=(List.range k).map fun i=>nameT (n+i)
theorem namesT_mem {n k:Nat}{x:L}:x∈namesT n k↔∃i,i<k∧x=nameT (n+i):=by
 unfold namesT;rw[List.mem_map]
 constructor
 ·rintro ⟨i,hi,rfl⟩;exact⟨i,List.mem_range.1 hi,rfl⟩
 ·rintro ⟨i,hi,rfl⟩;exact⟨i,List.mem_range.2 hi,rfl⟩
theorem namesT_snoc (n k:Nat):namesT n (k+1)=namesT n k++[nameT (n+k)]:=by
 unfold namesT;rw[List.range_succ,List.map_append];rfl
theorem namesT_len (n k:Nat):(namesT n k).length=k:=by unfold namesT;simp
theorem namesT_nodup {n k:Nat}(h:n+k<18446744073709551616):(namesT n k).Nodup:=by
 induction k with
 | zero=>exact List.nodup_nil
 | succ k ih =>
  rw[namesT_snoc,List.nodup_append];refine⟨ih (by omega),by simp,fun a ha b hb e=>?_⟩;obtain⟨i,hi,rfl⟩:=namesT_mem.1 ha;rw[List.mem_singleton.1 hb] at e;have:=nameT_inj (by omega) (by omega) e;omega
def fileT (n:Nat)(lv:Int)(l:List Ent):L:=(runX n lv l).2.1++(runX n lv l).1.outL
def wholeF (d:L):Fil:=⟨d,d.length⟩
def doneF (n:Nat)(lv:Int)(ls:List (List Ent))(base:L→Option Fil):Nat→L→Option Fil
 | 0=>base
 | i+1=>Dsk.updF (doneF n lv ls base i) (nameT (n+i)) (some (wholeF (fileT (n+i) lv (ls.getD i []))))
def wantF (n:Nat)(lv:Int)(ls:List (List Ent))(base:L→Option Fil)(J:JW):L→Option Fil :=
 if J.en=0 then doneF n lv ls base J.li else Dsk.updF (doneF n lv ls base J.li) (nameT (n+J.li)) (some ⟨(runX (n+J.li) lv ((ls.getD J.li []).take J.en)).2.1,0⟩)
def tabsT (n:Nat)(lv:Int)(ls:List (List Ent))(k:Nat):List TI:=(List.range k).map fun i=>finJ (runX (n+i) lv (ls.getD i []))
structure Calm (R F0:Nat)(s:Dsk):Prop where
 off:s.off=false
 uq:s.Uq
 ok:s.Ok
 dir:s.Dir
 room:s.room=R
 fuse:s.fuse≤F0
theorem Calm.did {R F0:Nat}{s t:Dsk}{r:Nat}{F:L→Option Fil}(h:Calm R F0 s)(hd:Dsk.Did s t r F)(uq:t.Uq)(ok:t.Ok)(dir:t.Dir):(r=7∧t.off=true∧0<F0)∨(r=0∧Calm R F0 t∧∀k,t.fil k=F k):=by
 have hf:=h.fuse;rcases hd.res with⟨h1,h2,h3⟩ | ⟨h1,h2,h3,h4⟩
 ·exact .inl ⟨h1,h2,by omega⟩
 ·exact .inr ⟨h1,⟨h2,uq,ok,dir,hd.room.trans h.room,by omega⟩,h4⟩
structure BaseOk (n:Nat)(base:L→Option Fil)(BN:List L):Prop where
 away:∀i,i<6→base (nameT (n+i))=none
 inN:∀k f,base k=some f→k∈BN∧f.d.length≤129120
 one:BN.length≤1
 nb:n≤4294967296
def LayT (n:Nat)(base:L→Option Fil)(c:Nat)(W:L→Option Fil):Prop:=∀k,(∃i,i<c∧k=nameT (n+i)∧∃f,W k=some f∧f.d.length≤129120)∨((∀i,i<c→k≠nameT (n+i))∧W k=base k)
theorem LayT.zero (n:Nat)(base:L→Option Fil):LayT n base 0 base:=fun k=>.inr ⟨fun i hi=>by omega,rfl⟩
theorem LayT.next {n:Nat}{base:L→Option Fil}{c:Nat}{W:L→Option Fil}(h:LayT n base c W){f:Fil}(hf:f.d.length≤129120):LayT n base (c+1) (Dsk.updF W (nameT (n+c)) (some f)):=fun k=>by
 unfold Dsk.updF
 by_cases hk:k=nameT (n+c)
 ·exact .inl ⟨c,by omega,hk,f,by rw[if_pos hk],hf⟩
 ·rw[if_neg hk];rcases h k with⟨i,h1,h2,h3⟩ | ⟨h1,h2⟩
  ·exact .inl ⟨i,by omega,h2,h3⟩
  ·refine .inr ⟨fun i hi=>?_,h2⟩
   by_cases e:i=c
   ·rw[e];exact hk
   ·exact h1 i (by omega)
theorem LayT.fresh {n:Nat}{base:L→Option Fil}{c:Nat}{W:L→Option Fil}(h:LayT n base c W){BN:List L}(hb:BaseOk n base BN)(hc:c<6):W (nameT (n+c))=none:=by
 have:=hb.nb;rcases h (nameT (n+c)) with⟨i,h1,h2,h3⟩ | ⟨h1,h2⟩
 ·have:=nameT_inj (by omega) (by omega) h2;omega
 ·rw[h2];exact hb.away c hc
theorem LayT.used {n:Nat}{base:L→Option Fil}{c:Nat}{s:Dsk}(h:LayT n base c s.fil){BN:List L}(hb:BaseOk n base BN)(hc:c≤6)(uq:s.Uq)(ok:s.Ok):s.used≤903840:=by
 have h1:=Dsk.used_le uq ok (BN++namesT n c) (fun _=>129120) (fun k f hf=>by
  rcases h k with⟨i,h1,h2,g,h3,h4⟩ | ⟨h1,h2⟩
  ·rw[hf] at h3;injection h3 with h3;exact⟨List.mem_append_right _ (namesT_mem.2 ⟨i,h1,h2⟩),by rw[h3];exact h4⟩
  ·rw[hf] at h2;obtain⟨h3,h4⟩:=hb.inN k f h2.symm
   exact⟨List.mem_append_left _ h3,h4⟩)
 have h2:∀q:List L,(q.map fun _=>129120).sum=129120*q.length:=fun q=>by induction q with
  | nil=>rfl
  | cons x q ih=>simp only[List.map_cons,List.sum_cons,List.length_cons,ih];omega
 rw[h2,List.length_append,namesT_len] at h1;have:=hb.one;omega
section
variable {R F0 n:Nat}{lv:Int}{ls:List (List Ent)}{base:L→Option Fil}{BN:List L}{s:Dsk}{J:JW}
structure JDisk (R F0 n:Nat)(lv:Int)(ls:List (List Ent))(base:L→Option Fil)(J:JW)(s:Dsk):Prop where
 calm:Calm R F0 s
 fil:∀k,s.fil k=wantF n lv ls base J k
 fs:J.fs=namesT n (cntJ J)
 ts:J.ts=tabsT n lv ls J.li
structure JBad (R F0 n:Nat)(base:L→Option Fil)(fs:List L)(s:Dsk):Prop where
 calm:Calm R F0 s
 nd:fs.Nodup
 on:∀k∈fs,s.fil k≠none
 away:∀k∈fs,base k=none
 rest:∀k,k ∉ fs→s.fil k=base k
theorem laidE_law (hc:Calm R F0 s){name:L}{f:Fil}(hf:s.fil name=some f)(hu:s.used≤903840){x:L}(hx:x.length≤129120) :
  ((laidE s name x).2=7∧(laidE s name x).1.off=true∧0<F0)∨((laidE s name x).2=0∧Calm R F0 (laidE s name x).1∧∀k,(laidE s name x).1.fil k=Dsk.updF s.fil name (some ⟨f.d++x,f.k⟩) k)∨((laidE s name x).2=6∧R<1048576∧(laidE s name x).1=s):=by
 unfold laidE
 by_cases he:x=[]
 ·rw[if_pos he,he];refine .inr (.inl ⟨rfl,hc,fun k=>?_⟩);rw[List.append_nil];unfold Dsk.updF
  by_cases hk:k=name
  ·rw[if_pos hk,hk];exact hf
  ·rw[if_neg hk]
 ·rw[if_neg he];rcases Dsk.append_did hc.ok hc.dir hc.off hf x with⟨h1,h2⟩ | ⟨h1,h2⟩
  ·rw[h2];have:=hc.room;exact .inr (.inr ⟨rfl,by omega,rfl⟩)
  ·rcases hc.did h2 (hc.uq.append _ _) (hc.ok.append _ _) (hc.dir.append _ _) with q | q
   ·exact .inl q
   ·exact .inr (.inl q)
theorem fileT_len {l:List Ent}(h:OkL l)(n:Nat)(lv:Int)(k:Nat)(hk:k≤l.length):(runX n lv (l.take k)).2.1.length+(runX n lv (l.take k)).1.outL.length≤129120:=by
 have h1:=h.cost n lv k hk;have h2:=entSz_le (l.take k) (fun e he=>h.fit e (List.mem_of_mem_take he));rw[List.length_take] at h2;have:=h.len;omega
theorem doneF_lay (hls:LsOk ls):∀i,i≤ls.length→LayT n base i (doneF n lv ls base i)
 | 0,_=>LayT.zero n base
 | i+1,h=>by
  have ih:=doneF_lay hls i (by omega)
  have h1:=hls.at_ (show i<ls.length by omega);have h2:=fileT_len h1 (n+i) lv _ (Nat.le_refl _);rw[List.take_length] at h2;exact ih.next (by unfold wholeF fileT;rw[List.length_append];exact h2)
theorem wantF_lay (hls:LsOk ls)(hJ:JOk ls J):LayT n base (cntJ J) (wantF n lv ls base J):=by
 have h1:=doneF_lay (n:=n) (lv:=lv) (base:=base) hls J.li hJ.li
 unfold wantF cntJ
 by_cases he:J.en=0
 ·rw[if_pos he,if_pos he];exact h1
 ·rw[if_neg he,if_neg he]
  have hl:J.li<ls.length:=by
   have:=hJ.li;have h3:J.li≠ls.length:=fun e=>he (hJ.en0 e);omega
  have h2:=fileT_len (hls.at_ hl) (n+J.li) lv J.en (by have:=hJ.en hl;omega);exact h1.next (by show (runX _ _ _).2.1.length≤_;omega)
theorem LayT.bad {c:Nat}(hc:Calm R F0 s)(h:LayT n base c s.fil)(hb:BaseOk n base BN)(hc6:c≤6):JBad R F0 n base (namesT n c) s:=by
 have hn:=hb.nb;refine⟨hc,namesT_nodup (by omega),fun k hk=>?_,fun k hk=>?_,fun k hk=>?_⟩
 ·obtain⟨i,hi,rfl⟩:=namesT_mem.1 hk;rcases h (nameT (n+i)) with⟨j,h1,h2,f,h3,_⟩ | ⟨h1,_⟩
  ·rw[h3];simp
  ·exact absurd rfl (h1 i hi)
 ·obtain⟨i,hi,rfl⟩:=namesT_mem.1 hk;exact hb.away i (by omega)
 ·rcases h k with⟨i,h1,h2,_⟩ | ⟨_,h2⟩
  ·exact absurd (namesT_mem.2 ⟨i,h1,h2⟩) hk
  ·exact h2
theorem LayT.congr {c:Nat}{W W':L→Option Fil}(h:LayT n base c W)(e:∀k,W' k=W k):LayT n base c W':=by
 have:W'=W:=funext e;rw[this];exact h
theorem delsE_law:∀(fs:List L) {s:Dsk},JBad R F0 n base fs s→((delsE fs s).2=true∧(delsE fs s).1.off=true∧0<F0)∨((delsE fs s).2=false∧Calm R F0 (delsE fs s).1∧∀k,(delsE fs s).1.fil k=base k)
 | [],s,h=>.inr ⟨rfl,h.calm,fun k=>h.rest k (by simp)⟩
 | a::fs,s,h=>by
  have hd:=Dsk.delete_did h.calm.ok h.calm.dir h.calm.off (h.on a (List.mem_cons_self ..));have hnd:=List.nodup_cons.1 h.nd;unfold delsE;rcases h.calm.did hd (h.calm.uq.delete _) (h.calm.ok.delete _) (h.calm.dir.delete _) with⟨h1,h2,h3⟩ | ⟨h1,h2,h3⟩
  ·rw[if_pos h1];exact .inl ⟨rfl,h2,h3⟩
  ·rw[if_neg (by rw[h1];decide)];refine delsE_law fs ⟨h2,hnd.2,fun k hk=>?_,fun k hk=>h.away k (List.mem_cons_of_mem _ hk),fun k hk=>?_⟩
   ·rw[h3];unfold Dsk.updF;rw[if_neg (fun e=>hnd.1 (by rw[←e];exact hk))];exact h.on k (List.mem_cons_of_mem _ hk)
   ·rw[h3];unfold Dsk.updF
    by_cases e:k=a
    ·rw[if_pos e,e];exact (h.away a (List.mem_cons_self ..)).symm
    ·rw[if_neg e]
     exact h.rest k (fun q=>by
      rcases List.mem_cons.1 q with q | q
      ·exact e q
      ·exact hk q)
end
section
variable {R F0 n:Nat}{lv:Int}{ls:List (List Ent)}{base:L→Option Fil}{BN:List L}{s:Dsk}{J:JW}
theorem openD_law (hls:LsOk ls)(hJ:JOk ls J)(hl:J.li<ls.length)(hb:BaseOk n base BN)(h:JDisk R F0 n lv ls base J s) :
  ((openD n J s).2=7∧(openD n J s).1.off=true∧0<F0)∨((openD n J s).2=0∧Calm R F0 (openD n J s).1∧(∀k,(openD n J s).1.fil k=Dsk.updF (doneF n lv ls base J.li) (nameT (n+J.li)) (some ⟨(runX (n+J.li) lv ((ls.getD J.li []).take J.en)).2.1,0⟩) k)∧openF n J=namesT n (J.li+1)):=by
 have hn:=hb.nb;have hfew:=hls.few;have hfs:=h.fs;unfold openD openF;unfold cntJ at hfs
 by_cases he:J.en=0
 ·rw[if_pos he,if_pos he];rw[if_pos he] at hfs
  have hfil:∀k,s.fil k=doneF n lv ls base J.li k:=fun k=>by
   rw[h.fil k];unfold wantF;rw[if_pos he]
  have hfr:=((doneF_lay (n:=n) (lv:=lv) (base:=base) hls J.li hJ.li).congr hfil).fresh hb (by omega)
  have hd:=Dsk.create_did h.calm.ok h.calm.off hfr (rightB_nameT (by omega));rcases h.calm.did hd (h.calm.uq.create _) (h.calm.ok.create _) (h.calm.dir.create h.calm.ok _) with q | ⟨q1,q2,q3⟩
  ·exact .inl q
  ·refine .inr ⟨q1,q2,fun k=>?_,by rw[hfs,namesT_snoc]⟩;rw[q3 k];unfold Dsk.updF;rw[hfil k,he,List.take_zero];rfl
 ·rw[if_neg he,if_neg he];rw[if_neg he] at hfs;refine .inr ⟨rfl,h.calm,fun k=>?_,hfs⟩;rw[h.fil k];unfold wantF;rw[if_neg he]
theorem updF_updF (F:L→Option Fil)(a:L)(u v:Option Fil)(k:L):Dsk.updF (Dsk.updF F a u) a v k=Dsk.updF F a v k:=by
 unfold Dsk.updF
 by_cases hk:k=a
 ·rw[if_pos hk,if_pos hk]
 ·rw[if_neg hk,if_neg hk,if_neg hk]
theorem updF_self (F:L→Option Fil)(a:L)(u:Option Fil):Dsk.updF F a u a=u:=by
 unfold Dsk.updF;rw[if_pos rfl]
theorem updF_congr {F G:L→Option Fil}(h:∀k,F k=G k)(a:L)(u:Option Fil)(k:L):Dsk.updF F a u k=Dsk.updF G a u k:=by
 have:F=G:=funext h;rw[this]
theorem writeE_law (hls:LsOk ls)(hJ:JOk ls J)(hl:J.li<ls.length)(hb:BaseOk n base BN)(h:JDisk R F0 n lv ls base J s) :
  ((writeE n lv (ls.getD J.li []) J s).2.2=7∧(writeE n lv (ls.getD J.li []) J s).2.1.off=true∧0<F0) ∨
  ((writeE n lv (ls.getD J.li []) J s).2.2=0∧JDisk R F0 n lv ls base (writeE n lv (ls.getD J.li []) J s).1 (writeE n lv (ls.getD J.li []) J s).2.1) ∨
  ((writeE n lv (ls.getD J.li []) J s).2.2=6∧R<1048576∧JBad R F0 n base (writeE n lv (ls.getD J.li []) J s).1.fs (writeE n lv (ls.getD J.li []) J s).2.1):=by
 have hn:=hb.nb;have hfew:=hls.few;have hOk:=hls.at_ hl;have hen:=hJ.en hl;have hts:=h.ts
 have hDL:=doneF_lay (n:=n) (lv:=lv) (base:=base) hls J.li hJ.li
 have hA:=openD_law hls hJ hl hb h;unfold writeE
 generalize hl2:ls.getD J.li []=l at *
 generalize hD:doneF n lv ls base J.li=D at *
 generalize hnm:nameT (n+J.li)=nm at *
 generalize hO:openD n J s=O at *
 obtain⟨s1,e1⟩:=O
 simp only at *
 rcases hA with⟨a1,a2,a3⟩ | ⟨a1,a2,a3,a4⟩
 ·rw[if_neg (by omega)];exact .inl ⟨a1,a2,a3⟩
 rw[if_pos a1];obtain⟨hsn,_⟩:=hOk.snoc (n+J.li) lv hen;have hp1:=fileT_len hOk (n+J.li) lv J.en (by omega);have hp2:=fileT_len hOk (n+J.li) lv (J.en+1) (by omega)
 have hLay1:∀(f:Fil),f.d.length≤129120→LayT n base (J.li+1) (Dsk.updF D nm (some f)):=fun f hf=>by rw[←hnm];exact hDL.next hf
 rw[hsn] at hp2;simp only[List.length_append] at hp2;have hu1:=((hLay1 _ (by show (runX _ _ _).2.1.length≤_;omega)).congr a3).used hb (by omega) a2.uq a2.ok
 have hf1:s1.fil nm=some ⟨(runX (n+J.li) lv (l.take J.en)).2.1,0⟩:=by rw[a3];exact updF_self _ _ _
 have hB:=laidE_law a2 hf1 hu1 (x:=((runX (n+J.li) lv (l.take J.en)).1.add (l.getD J.en ent0)).2) (by omega)
 generalize hO2:laidE s1 nm ((runX (n+J.li) lv (l.take J.en)).1.add (l.getD J.en ent0)).2=O2 at *
 obtain⟨s2,e2⟩:=O2
 simp only at *
 have hbad:∀ {t:Dsk},Calm R F0 t→∀ {f:Fil},f.d.length≤129120→(∀k,t.fil k=Dsk.updF D nm (some f) k)→JBad R F0 n base (openF n J) t:=fun ht f hf hk=>by
  rw[a4];exact ((hLay1 f hf).congr hk).bad ht hb (by omega)
 rcases hB with⟨b1,b2,b3⟩ | ⟨b1,b2,b3⟩ | ⟨b1,b2,b3⟩
 ·rw[if_neg (by omega)];exact .inl ⟨b1,b2,b3⟩
 ·rw[if_pos b1]
  have hfil2:∀k,s2.fil k=Dsk.updF D nm (some ⟨(runX (n+J.li) lv (l.take (J.en+1))).2.1,0⟩) k:=fun k=>by
   rw[b3 k,updF_congr a3,updF_updF,hsn]
  by_cases hlt:J.en+1<l.length
  ·rw[if_pos hlt];refine .inr (.inl ⟨rfl,b2,fun k=>?_,?_,hts⟩)
   ·rw[hfil2 k];unfold wantF;simp only;rw[if_neg (by omega),hD,hnm,hl2]
   ·show openF n J=namesT n (cntJ _);unfold cntJ;simp only;rw[if_neg (by omega),a4]
  ·rw[if_neg hlt];have hwl:l.take (J.en+1)=l:=List.take_of_length_le (by omega);rw[hwl] at hfil2 hsn;have hp3:=fileT_len hOk (n+J.li) lv l.length (Nat.le_refl _);rw[List.take_length] at hp3;have hu2:=((hLay1 _ (by show (runX _ _ _).2.1.length≤_;omega)).congr hfil2).used hb (by omega) b2.uq b2.ok
   have hf2:s2.fil nm=some ⟨(runX (n+J.li) lv l).2.1,0⟩:=by rw[hfil2];exact updF_self _ _ _
   have hC:=laidE_law b2 hf2 hu2 (x:=(runX (n+J.li) lv l).1.outL) (by omega);unfold finD
   generalize hO3:laidE s2 nm (runX (n+J.li) lv l).1.outL=O3 at *
   obtain⟨s3,e3⟩:=O3
   simp only at *
   rcases hC with⟨c1,c2,c3⟩ | ⟨c1,c2,c3⟩ | ⟨c1,c2,c3⟩
   ·rw[if_neg (show ¬e3=0 by omega)];simp only;rw[if_neg (by omega)];exact .inl ⟨c1,c2,c3⟩
   ·rw[if_pos c1]
    have hfil3:∀k,s3.fil k=Dsk.updF D nm (some ⟨fileT (n+J.li) lv l,0⟩) k:=fun k=>by
     rw[c3 k,updF_congr hfil2,updF_updF];rfl
    have hf3:s3.fil nm=some ⟨fileT (n+J.li) lv l,0⟩:=by rw[hfil3];exact updF_self _ _ _
    have hd:=Dsk.sync_did c2.ok c2.dir c2.off hf3;rcases c2.did hd (c2.uq.sync _) (c2.ok.sync _) (c2.dir.sync _) with⟨d1,d2,d3⟩ | ⟨d1,d2,d3⟩
    ·rw[if_neg (by omega)];exact .inl ⟨d1,d2,d3⟩
    ·rw[if_pos d1];refine .inr (.inl ⟨rfl,d2,fun k=>?_,?_,?_⟩)
     ·rw[d3 k,updF_congr hfil3,updF_updF];unfold wantF;simp only;rw[if_pos trivial]
      unfold doneF
      rw[hD,hnm,hl2];rfl
     ·show openF n J=namesT n (cntJ _);unfold cntJ;simp only;rw[if_pos trivial,a4]
     ·show J.ts++_=tabsT n lv ls (J.li+1);rw[hts];unfold tabsT;rw[List.range_succ,List.map_append,List.map_singleton,hl2]
   ·rw[if_neg (show ¬e3=0 by omega)];simp only;rw[if_neg (by omega)];rw[c3];exact .inr (.inr ⟨c1,c2,hbad b2 (by show (runX _ _ _).2.1.length≤_;omega) hfil2⟩)
 ·rw[if_neg (by omega)];simp only;rw[b3];exact .inr (.inr ⟨b1,b2,hbad a2 (by show (runX _ _ _).2.1.length≤_;omega) a3⟩)
def posE (ls:List (List Ent))(J:JW):Nat:=((ls.take J.li).map List.length).sum+J.en
def totE (ls:List (List Ent)):Nat:=(ls.map List.length).sum
theorem sum_take_le (l:List (List Ent))(k:Nat):((l.take k).map List.length).sum≤totE l:=by
 have h:=List.take_append_drop k l;unfold totE;rw[←h,List.map_append,List.sum_append,List.take_append_drop];omega
theorem sum_take_succ {l:List (List Ent)}{k:Nat}(h:k<l.length):((l.take (k+1)).map List.length).sum=((l.take k).map List.length).sum+(l.getD k []).length:=by
 rw[List.take_succ_eq_append_getElem h,List.map_append,List.sum_append,List.getD_eq_getElem?_getD,List.getElem?_eq_getElem h];simp
theorem posE_le (hJ:JOk ls J):posE ls J≤totE ls∧(J.li<ls.length→posE ls J<totE ls)∧(J.li=ls.length→posE ls J=totE ls):=by
 have h2:J.li<ls.length→posE ls J<totE ls:=fun hl=>by
  have h1:=sum_take_le ls (J.li+1);rw[sum_take_succ hl] at h1;have:=hJ.en hl;unfold posE;omega
 have h3:J.li=ls.length→posE ls J=totE ls:=fun hl=>by
  unfold posE totE;rw[hJ.en0 hl,hl,List.take_length];rfl
 have:=hJ.li;refine⟨?_,h2,h3⟩
 by_cases hl:J.li<ls.length
 ·exact Nat.le_of_lt (h2 hl)
 ·exact Nat.le_of_eq (h3 (by omega))
theorem writeE_pos (hJ:JOk ls J)(hl:J.li<ls.length)(h:(writeE n lv (ls.getD J.li []) J s).2.2=0):posE ls (writeE n lv (ls.getD J.li []) J s).1=posE ls J+1:=by
 have hen:=hJ.en hl;unfold writeE at h ⊢
 split at h
 ·rename_i h1
  rw[if_pos h1]
  split at h
  ·rename_i h2
   rw[if_pos h2]
   split at h
   ·rename_i h3
    rw[if_pos h3];unfold posE;simp only;omega
   ·rename_i h3
    rw[if_neg h3]
    split at h
    ·rename_i h4
     rw[if_pos h4];unfold posE;simp only;rw[sum_take_succ hl];omega
    ·rename_i h4
     exact absurd h h4
  ·rename_i h2
   exact absurd h h2
 ·rename_i h1
  exact absurd h h1
theorem stepsE_law (hls:LsOk ls)(hb:BaseOk n base BN):∀(k:Nat) {J:JW} {s:Dsk},JOk ls J→JDisk R F0 n lv ls base J s →
  ((stepsE n lv ls k J s).2.2=7∧(stepsE n lv ls k J s).2.1.off=true∧0<F0) ∨
  ((stepsE n lv ls k J s).2.2=0∧JOk ls (stepsE n lv ls k J s).1∧JDisk R F0 n lv ls base (stepsE n lv ls k J s).1 (stepsE n lv ls k J s).2.1∧posE ls (stepsE n lv ls k J s).1=min (posE ls J+k) (totE ls)) ∨
  ((stepsE n lv ls k J s).2.2=6∧R<1048576∧JBad R F0 n base (stepsE n lv ls k J s).1.fs (stepsE n lv ls k J s).2.1)
 | 0,J,s,hJ,h=>.inr (.inl ⟨rfl,hJ,h,by have:=(posE_le hJ).1;show posE ls J=_;omega⟩)
 | k+1,J,s,hJ,h=>by
  have hn:=hb.nb;have hfew:=hls.few;unfold stepsE
  by_cases hl:J.li=ls.length
  ·rw[if_pos hl];exact .inr (.inl ⟨rfl,hJ,h,by have:=(posE_le hJ).2.2 hl;show posE ls J=_;omega⟩)
  ·rw[if_neg hl]
   have hl':J.li<ls.length:=by have:=hJ.li;omega
   have hok:=(writeE_ok hls hJ hl' (n:=n) (lv:=lv) (s:=s) (by omega)).1;have hpos:=writeE_pos (n:=n) (lv:=lv) (s:=s) hJ hl';have hlt:=(posE_le hJ).2.1 hl';rcases writeE_law hls hJ hl' hb h with⟨h1,h2,h3⟩ | ⟨h1,h2⟩ | ⟨h1,h2,h3⟩
   ·rw[if_neg (by omega)];exact .inl ⟨h1,h2,h3⟩
   ·rw[if_pos h1];have ih:=stepsE_law hls hb k (hok h1) h2;rw[hpos h1] at ih;rcases ih with q | ⟨q1,q2,q3,q4⟩ | q
    ·exact .inl q
    ·exact .inr (.inl ⟨q1,q2,q3,by omega⟩)
    ·exact .inr (.inr q)
   ·rw[if_neg (by omega)];exact .inr (.inr ⟨h1,h2,h3⟩)
structure StGood (R F0 n:Nat)(lv:Int)(ls:List (List Ent))(base:L→Option Fil)(r:SR)(p:Nat):Prop where
 e:r.e=0
 dead:r.dead=false
 over:r.over=false
 ret:r.ret=r.done
 ok:JOk ls r.J
 disk:JDisk R F0 n lv ls base r.J r.s
 pos:posE ls r.J=min p (totE ls)
 done:r.done=true↔r.J.li=ls.length
 last:r.done=true→0<ls.length→r.s.last=r.s.names∧r.s.chg=[]
structure StDown (F0:Nat)(r:SR):Prop where
 e:r.e=7
 ret:r.ret=false
 dead:r.dead=true
 over:r.over=false
 done:r.done=false
 off:r.s.off=true
 pos:0<F0
structure StFull (R F0 n:Nat)(base:L→Option Fil)(r:SR):Prop where
 e:r.e=6
 ret:r.ret=false
 dead:r.dead=false
 over:r.over=true
 done:r.done=false
 room:R<1048576
 fs:r.J.fs=[]
 ts:r.J.ts=[]
 calm:Calm R F0 r.s
 fil:∀k,r.s.fil k=base k
theorem giveR_law {why:Nat}(hw:(why=7∧s.off=true∧0<F0)∨(why=6∧R<1048576∧JBad R F0 n base J.fs s)):StDown F0 (giveR J s why)∨StFull R F0 n base (giveR J s why):=by
 unfold giveR;rcases hw with⟨h1,h2,h3⟩ | ⟨h1,h2,h3⟩
 ·rw[if_pos h1];exact .inl ⟨rfl,rfl,rfl,rfl,rfl,h2,h3⟩
 ·rw[if_neg (by omega)];rcases delsE_law J.fs h3 with⟨q1,q2,q3⟩ | ⟨q1,q2,q3⟩
  ·rw[if_pos q1];exact .inl ⟨rfl,rfl,rfl,rfl,rfl,q2,q3⟩
  ·rw[if_neg (by rw[q1];decide)];exact .inr ⟨h1,rfl,rfl,rfl,rfl,h2,rfl,rfl,q2,q3⟩
theorem stepR_law (hls:LsOk ls)(hb:BaseOk n base BN)(hJ:JOk ls J)(h:JDisk R F0 n lv ls base J s) :
  StGood R F0 n lv ls base (stepR n lv ls J s) (posE ls J+8)∨StDown F0 (stepR n lv ls J s)∨StFull R F0 n base (stepR n lv ls J s):=by
 unfold stepR;have hS:=stepsE_law hls hb 8 hJ h
 generalize stepsE n lv ls 8 J s=W at *
 obtain⟨WJ,Ws,We⟩:=W;simp only at hS;rcases hS with⟨h1,h2,h3⟩ | ⟨h1,h2,h3,h4⟩ | ⟨h1,h2,h3⟩
 ·subst h1;rw[endR_err (by decide)];exact .inr (giveR_law (.inl ⟨rfl,h2,h3⟩))
 ·subst h1;have hli:=h2.li
  by_cases hl:WJ.li<ls.length
  ·rw[endR_more hl];exact .inl ⟨rfl,rfl,rfl,rfl,h2,h3,h4,⟨fun e=>(by cases e),fun e=>by have:WJ.li=ls.length:=e;omega⟩,fun e=>by cases e⟩
  ·by_cases hp:0<ls.length
   ·obtain⟨hd,hd2⟩:=Dsk.dirsync_did h3.calm.off;rcases h3.calm.did hd h3.calm.uq.dirsync h3.calm.ok.dirsync h3.calm.dir.dirsync with⟨q1,q2,q3⟩ | ⟨q1,q2,q3⟩
    ·rw[endR_give hl hp (by omega),q1];exact .inr (giveR_law (.inl ⟨rfl,q2,q3⟩))
    ·rw[endR_done hl hp q1];exact .inl ⟨rfl,rfl,rfl,rfl,h2,⟨q2,fun k=>(q3 k).trans (h3.fil k),h3.fs,h3.ts⟩,h4,⟨fun _=>by show WJ.li=_;omega,fun _=>rfl⟩,fun _ _=>hd2 q1⟩
   ·rw[endR_none hl hp];exact .inl ⟨rfl,rfl,rfl,rfl,h2,h3,h4,⟨fun _=>by show WJ.li=_;omega,fun _=>rfl⟩,fun _ e=>absurd e hp⟩
 ·subst h1;rw[endR_err (by decide)];exact .inr (giveR_law (.inr ⟨rfl,h2,h3⟩))
theorem StGood.done_iff {r:SR}{p:Nat}(h:StGood R F0 n lv ls base r p):r.done=true↔totE ls≤p:=by
 rw[h.done]
 obtain⟨h1,h2,h3⟩:=posE_le h.ok;have h4:=h.pos;have h5:=h.ok.li
 constructor
 ·intro e;have:=h3 e;omega
 ·intro e
  have h6:¬r.J.li<ls.length:=fun q=>by have:=h2 q;omega
  omega
theorem totE_le (hls:LsOk ls):totE ls≤360:=by
 have h1:=hls.few
 have:∀l:List (List Ent),(∀x∈l,OkL x)→totE l≤60*l.length:=fun l=>by
  induction l with
  | nil=>exact fun _=>Nat.le_refl _
  | cons x l ih =>
   intro h;have h2:=ih (fun y hy=>h y (List.mem_cons_of_mem _ hy));have h3:=(h x (List.mem_cons_self ..)).len
   unfold totE at *
   simp only[List.map_cons,List.sum_cons,List.length_cons];omega
 have:=this ls hls.ok;omega
end
end Go.Proofs.YtlpojfgeocpkeaaGreatDoor
namespace Go.Proofs.YtlpojfgeocpkeaaGreatDoor
open Go.RowKit Go.Sort
set_option linter.unusedVariables false
set_option linter.unusedSimpArgs false
def lsA:List (List Ent):=[fewE 97 10,fewE 98 3]
theorem lsA_ok:LsOk lsA:=by
 refine⟨fun l hl=>?_,by decide⟩;unfold lsA at hl;rcases List.mem_cons.1 hl with rfl | hl
 ·exact⟨by decide +kernel,by decide +kernel,by decide +kernel,by decide +kernel⟩
 ·rw[List.mem_singleton.1 hl];exact⟨by decide +kernel,by decide +kernel,by decide +kernel,by decide +kernel⟩
theorem tabA:(finJ (runX 8 1 (fewE 98 3))).n=8∧(finJ (runX 8 1 (fewE 98 3))).count=3:=by decide +kernel
theorem totA:totE lsA=13:=by decide +kernel
theorem calm_new (r:Int):Calm ((min (max r 0) 1048576).toNat) 0 (Dsk.new r):=⟨rfl,.new r,.new r,.new r,rfl,Nat.le_refl _⟩
theorem base_none (n:Nat)(hn:n≤4294967296):BaseOk n (fun _=>none) []:=⟨fun _ _=>rfl,fun k f h=>(by cases h),by decide,hn⟩
theorem JDisk.zero {R F0 n:Nat}{lv:Int}{ls:List (List Ent)}{base:L→Option Fil}{s:Dsk}(h:Calm R F0 s)(hf:∀k,s.fil k=base k):JDisk R F0 n lv ls base ⟨0,0,[],[]⟩ s:=⟨h,hf,rfl,rfl⟩
section
variable {R n:Nat}{lv:Int}{ls:List (List Ent)}{base:L→Option Fil}{BN:List L}{s:Dsk}{J:JW}
theorem stepR_calm (hls:LsOk ls)(hb:BaseOk n base BN)(hJ:JOk ls J)(h:JDisk 1048576 0 n lv ls base J s):StGood 1048576 0 n lv ls base (stepR n lv ls J s) (posE ls J+8):=by
 rcases stepR_law hls hb hJ h with q | q | q
 ·exact q
 ·exact absurd q.pos (by decide)
 ·exact absurd q.room (by decide)
theorem JDisk.names {F0:Nat}(hls:LsOk ls)(hJ:JOk ls J)(hb:BaseOk n base BN)(h:JDisk R F0 n lv ls base J s)(hBN:∀k,base k≠none↔k∈BN)(hnd:BN.Nodup):s.names.length=BN.length+cntJ J:=by
 have hn:=hb.nb;have h6:=hls.few
 have hc:cntJ J≤6:=by
  have h1:=hJ.few.fs;rw[h.fs,namesT_len] at h1;omega
 have hL:=(wantF_lay (n:=n) (lv:=lv) (base:=base) hls hJ).congr h.fil
 have hNd:(BN++namesT n (cntJ J)).Nodup:=by
  rw[List.nodup_append];refine⟨hnd,namesT_nodup (by omega),fun a ha b hb2 e=>?_⟩;subst e;obtain⟨i,hi,rfl⟩:=namesT_mem.1 hb2;exact (hBN _).2 ha (hb.away i (by omega))
 have e1:=Dsk.names_le h.calm.uq h.calm.ok (BN++namesT n (cntJ J)) (fun k hk=>by
  rcases hL k with⟨i,h1,h2,_⟩ | ⟨_,h2⟩
  ·exact List.mem_append_right _ (namesT_mem.2 ⟨i,h1,h2⟩)
  ·rw[h2] at hk
   exact List.mem_append_left _ ((hBN k).1 hk))
 have e2:=Dsk.names_ge h.calm.ok _ hNd (fun k hk=>by
  rcases hL k with⟨i,h1,h2,f,h3,_⟩ | ⟨h1,h2⟩
  ·rw[h3];simp
  ·rw[h2];rcases List.mem_append.1 hk with q | q
   ·exact (hBN k).2 q
   ·obtain⟨i,hi,rfl⟩:=namesT_mem.1 q
    exact absurd rfl (h1 i hi))
 rw[List.length_append,namesT_len] at e1 e2;omega
end
theorem tabs_at {w:World}{A:Option Addr}{c:Nat}{ts:List TI}(h:w.ownsRow 0 51 8 (.slice A ts.length c) ts.length (tsL ts)){i:Nat}{t:TI}(ht:ts[i]? = some t):∃b,A=some ⟨b,0,none⟩∧b<w.heap.size∧∀k (hk:k<8),w.cell? ⟨b,i*8+k,none⟩=(tiC t)[k]? := by
 have hi:i<ts.length:=(List.getElem?_eq_some_iff.1 ht).1;rcases h.2 with⟨e,e2⟩ | ⟨g,cap,cur,e,_,hg,hn,_,hcs,htk⟩
 ·omega
 ·injection e with e1 e2 e3;refine⟨g,e1,Blk.lt hg,fun k hk=>?_⟩;rw[Blk.cell hg]
  have h1:∀(ts:List TI) (i:Nat) (t:TI),ts[i]? = some t→(tsL ts)[i*8+k]? = (tiL t)[k]? := fun ts=>by
   induction ts with
   | nil=>intro i t h;simp at h
   | cons x l ih =>
    intro i t h;rcases i with _ | i
    ·simp at h;subst h;show (tiL x++tsL l)[0*8+k]? = _;rw[List.getElem?_append_left (by simp[tiL,tiC];omega)];simp
    ·have:=ih i t (by simpa using h);show (tiL x++tsL l)[(i+1)*8+k]? = _;rw[List.getElem?_append_right (by simp[tiL,tiC];omega)];rw[←this]
     congr 1
     simp[tiL,tiC];omega
  have h2:=h1 ts i t ht;rw[←htk,List.getElem?_take,if_pos (by omega),Array.getElem?_toList] at h2;rw[h2];unfold tiL;rw[Array.getElem?_toList]
set_option maxRecDepth 100000 in
set_option maxHeartbeats 8000000 in
theorem jawake_any {w:World}(hG:Gl w)(h5:Tab w)(hz7:7≤w.heap.size):Calls Tryz.prog 8 #[] w fun e w'=>e=.returned (.bool true)∧Below w.heap.size w w':=by
 have hnew:=Lib.hid (New_dx 1048576 w (X:=fun k=>k<w.heap.size) (fun k q=>q));obtain⟨B1,hB1⟩:∃b,w.heap.size=b:=⟨_,rfl⟩;rw[hB1] at hnew;replace hG:=Lib.hid hG;replace h5:=Lib.hid h5
 go_enter Tryz.func8,Tryz.ntmps8
 go_wp2_with fail
 refine hnew.out.mono ?_;rintro e w1 ⟨d,rfl,hD,hb1,hd⟩;have hz1:=hb1.size;have hf1:=Lib.hid (few_any 97 10 (by decide) w1);replace hD:=Lib.hid hD;replace hb1:=Lib.hid hb1;clear hnew;go_wp2_with fail
 refine hf1.out.mono ?_;rintro e w2 ⟨A1,c1,rfl,ho1,hb2⟩;have hz2:=hb2.size;have hf2:=Lib.hid (few_any 98 3 (by decide) w2);clear hf1;replace hb2:=Lib.hid hb2;replace ho1:=Lib.hid ho1;go_wp2_with fail
 refine hf2.out.mono ?_;rintro e w3 ⟨A2,c2,rfl,ho2,hb3⟩;have hz3:=hb3.size;clear hf2;have hb4:Below w3.heap.size w3 (w3.alloc (.cells #[.slice A1 10 c1,.slice A2 3 c2] 44)):=(Below.refl _ _).alloc (Nat.le_refl _) _
 have hz4:(w3.alloc (.cells #[.slice A1 10 c1,.slice A2 3 c2] 44)).heap.size=w3.heap.size+1:=by simp
 have hblk:=Blk.new w3 44 #[.slice A1 10 c1,.slice A2 3 c2];obtain⟨w4,hw4⟩:∃x,w3.alloc (.cells #[.slice A1 10 c1,.slice A2 3 c2] 44)=x:=⟨_,rfl⟩;rw[hw4] at hb4 hz4 hblk;have hr1:=ho1.out.reads;have hr2:=ho2.reads;obtain⟨A1',c1',e1,hr1⟩:=hr1;obtain⟨A2',c2',e2,hr2⟩:=hr2;rw[fewE_len] at e1 e2 hr1 hr2;injection e1 with e1 _ e1c;injection e2 with e2 _ e2c;subst e1 e2 e1c e2c
 have hls:LsAt w4 w4.heap.size (some ⟨w3.heap.size,0,none⟩) [⟨fewE 97 10,A1,c1⟩,⟨fewE 98 3,A2,c2⟩]:=by
  refine⟨⟨rfl,fun _=>⟨_,rfl,by show w3.heap.size<_;omega,fun j u hu=>?_⟩⟩,fun x hx=>?_⟩
  ·rcases j with _ | _ | j
   ·simp[elV,fewE_len] at hu;subst hu;exact hblk.cell 0
   ·simp[elV,fewE_len] at hu;subst hu;exact hblk.cell 1
   ·simp[elV] at hu
  ·have hb24:=hb3.trans (hb4.mono hz3);have hb14:=hb2.out.trans (hb24.mono hz2);rcases List.mem_cons.1 hx with rfl | hx
   ·refine⟨?_,fun e he=>?_⟩
    ·rw[fewE_len];exact (Reads.below hr1 hb24).more (by omega)
    ·have:=(lsA_ok.ok _ (List.mem_cons_self ..)).seq e he;exact this
   ·rw[List.mem_singleton.1 hx];refine⟨?_,fun e he=>?_⟩
    ·rw[fewE_len];exact (Reads.below hr2 hb4).more (by omega)
    ·exact (lsA_ok.ok _ (List.mem_cons_of_mem _ (List.mem_cons_self ..))).seq e he
 have hbw4:Below B1 w w4:=by exact hb1.out.trans ((hb2.out.trans ((hb3.trans (hb4.mono hz3)).mono hz2)).mono (by omega))
 have hD4:=hD.out.grow ((hb2.out.trans ((hb3.trans (hb4.mono hz3)).mono hz2))) (Y:=fun k=>k<B1) (fun k q=>.inl q);have hG4:=hG.out.below hbw4 (by omega);have h54:=h5.out.low hbw4 (by omega)
 have hz41:B1≤w4.heap.size:=by omega
 have hnj:=new_run 1 7 hD4 hls (by simp) (fun x hx hp=>by
  rcases List.mem_cons.1 hx with rfl | hx
  ·exact lsA_ok.ok _ (List.mem_cons_self ..)
  ·rw[List.mem_singleton.1 hx];exact lsA_ok.ok _ (List.mem_cons_of_mem _ (List.mem_cons_self ..))) (fun x hx=>by
  rcases List.mem_cons.1 hx with rfl | hx
  ·exact (lsA_ok.ok _ (List.mem_cons_self ..)).len
  ·rw[List.mem_singleton.1 hx];exact (lsA_ok.ok _ (List.mem_cons_of_mem _ (List.mem_cons_self ..))).len) hG4 h54 (by omega) hz41 (cap:=2)
 replace hnj:=Lib.hid hnj;replace hbw4:=Lib.hid hbw4;clear hls hD4 hG4 h54 hr1 hr2 hblk hb4;replace hb3:=Lib.hid hb3;replace ho2:=Lib.hid ho2;replace hw4:=Lib.hid hw4;replace hz4:=Lib.hid hz4;go_wp2_with fail
 rw[show w3.alloc (.cells #[.slice A1 10 c1,.slice A2 3 c2] 44)=w4 from hw4.out];refine hnj.out.mono ?_;clear hnj;rintro e w5 ⟨K,vl,os,rfl,hKl,hJ,hk,hom,hb5⟩;have hz5:=hb5.size;have hbw5:=hbw4.out.trans (hb5.mono hz41)
 have homA:os.map (·.l)=lsA:=by
  rw[hom];show ([(⟨fewE 97 10,A1,c1⟩:EL),⟨fewE 98 3,A2,c2⟩].filter fullP).map (·.l)=lsA
  have q1:fullP ⟨fewE 97 10,A1,c1⟩=true:=by unfold fullP;simp[fewE_len]
  have q2:fullP ⟨fewE 98 3,A2,c2⟩=true:=by unfold fullP;simp[fewE_len]
  simp[List.filter_cons,q1,q2,lsA]
 have hb0:=base_none 7 (by decide);have hJ0:=JOk.zero lsA_ok;have hD0:JDisk 1048576 0 7 1 lsA (fun _=>none) ⟨0,0,[],[]⟩ (Dsk.new 1048576):=.zero (calm_new 1048576) (fun _=>rfl);have hS1:=stepR_calm lsA_ok hb0 hJ0 hD0;have hg1:=stepR_good (lv:=1) (n:=7) lsA_ok (by decide) hJ0 (Dsk.Good.new 1048576);have hst1:=Step_on hJ hk homA hJ0 lsA_ok rfl (Dsk.Good.new 1048576) (by decide) (by decide);obtain⟨r1,hr1⟩:∃r,stepR 7 1 lsA ⟨0,0,[],[]⟩ (Dsk.new 1048576)=r:=⟨_,rfl⟩;rw[hr1] at hS1 hg1 hst1;have hp0:posE lsA ⟨0,0,[],[]⟩=0:=rfl;rw[hp0] at hS1
 have hdn1:r1.done=false:=by
  have:=hS1.done_iff
  rw[totA] at this
  cases hd:r1.done with
  | false=>rfl
  | true=>have:=this.1 hd;omega
 rw[hS1.ret,hdn1,hS1.e,hS1.over,hS1.dead] at hst1;have hS2:=stepR_calm lsA_ok hb0 hS1.ok hS1.disk;have hg2:=stepR_good (lv:=1) (n:=7) lsA_ok (by decide) hS1.ok hg1;obtain⟨r2,hr2⟩:∃r,stepR 7 1 lsA r1.J r1.s=r:=⟨_,rfl⟩;have hst2:=fun (w:World) (hJ:JRun K w w4.heap.size d r1.s 7 1 vl os r1.J false false false True) (hk:JK K w vl os)=>Step_on hJ hk homA hS1.ok lsA_ok hS1.disk.calm.off hg1 (by decide) (by decide);rw[hr2] at hS2 hg2
 have hdn2:r2.done=true:=hS2.done_iff.2 (by rw[hS1.pos,totA];decide)
 simp only[hr2] at hst2;simp only[hS2.ret,hdn2,hS2.e,hS2.over,hS2.dead] at hst2
 have hli2:r2.J.li=2:=hS2.done.1 hdn2
 have hts2:r2.J.ts=tabsT 7 1 lsA 2:=by rw[hS2.disk.ts,hli2]
 have htl2:r2.J.ts.length=2:=by rw[hts2];rfl
 have hen2:r2.J.en=0:=hS2.ok.en0 hli2
 have hnm2:r2.s.names.length=2:=by
  have:=hS2.disk.names lsA_ok hS2.ok hb0 (fun k=>by simp) List.nodup_nil;rw[this];unfold cntJ;rw[if_pos hen2,hli2];rfl
 have hkK:=hk;replace hst1:=Lib.hid hst1;replace hst2:=Lib.hid hst2;replace hJ:=Lib.hid hJ;replace hk:=Lib.hid hk;replace hkK:=Lib.hid hkK;replace hS1:=Lib.hid hS1;replace hS2:=Lib.hid hS2;replace hr1:=Lib.hid hr1;replace hr2:=Lib.hid hr2;replace hg1:=Lib.hid hg1;replace hg2:=Lib.hid hg2;replace hb5:=Lib.hid hb5;replace hbw5:=Lib.hid hbw5;replace hom:=Lib.hid hom;replace homA:=Lib.hid homA;replace hKl:=Lib.hid hKl;replace hts2:=Lib.hid hts2;replace htl2:=Lib.hid htl2;replace hnm2:=Lib.hid hnm2;replace hdn1:=Lib.hid hdn1;replace hdn2:=Lib.hid hdn2;replace hli2:=Lib.hid hli2;replace hen2:=Lib.hid hen2;replace hp0:=Lib.hid hp0;replace hJ0:=Lib.hid hJ0;replace hD0:=Lib.hid hD0;replace hb0:=Lib.hid hb0;go_wp2_with fail
 refine hst1.out.mono ?_;clear hst1;rintro e w6 ⟨rfl,hk6,hJ6⟩;have hst2':=Lib.hid (hst2.out w6 (hJ6.weak (fun _=>by simp)) (hk.out.keeps hk6));replace hJ6:=Lib.hid hJ6;replace hk6:=Lib.hid hk6;clear hst2;go_wp2_with fail
 refine hst2'.out.mono ?_;clear hst2';rintro e w7 ⟨rfl,hk7,hJ7⟩;have hk57:=hk6.out.trans hk7 (fun _=>id);have htb:=Tables_any hJ7 (by rw[htl2.out];decide);have hD7:=hJ7.dx_;replace hJ7:=Lib.hid hJ7;replace hk7:=Lib.hid hk7;replace hk57:=Lib.hid hk57;replace htb:=Lib.hid htb;go_wp2_with fail
 refine htb.out.mono ?_;clear htb;rintro e w8 ⟨AT,cT,rfl,hoT,hb8⟩
 obtain⟨t1,ht1⟩:∃t,r2.J.ts[1]? = some t:=by rw[hts2.out];exact⟨_,rfl⟩
 have ht1n:t1.n=8∧t1.count=3:=by
  have e:=ht1;rw[hts2.out] at e;have e2:(tabsT 7 1 lsA 2)[1]? = some (finJ (runX 8 1 (fewE 98 3))):=rfl;rw[e2] at e;injection e with e;rw[←e];exact tabA
 have hoT0:w8.ownsRow 0 51 8 (.slice AT r2.J.ts.length cT) r2.J.ts.length (tsL r2.J.ts):=⟨hoT.1,by
  rcases hoT.2 with q | ⟨g,cap,cur,q1,q2,q3⟩
  ·exact .inl q
  ·exact .inr ⟨g,cap,cur,q1,Nat.zero_le _,q3⟩⟩
 obtain⟨tb,rfl,htbl,hcT⟩:=tabs_at hoT0 ht1
 have hcn:w8.cell? ⟨tb,8,none⟩=some (.int .u64 8):=by have:=hcT 0 (by decide);rw[this];unfold tiC;rw[ht1n.1];rfl
 have hcc:w8.cell? ⟨tb,10,none⟩=some (.int .i64 3):=by have:=hcT 2 (by decide);rw[this];unfold tiC;rw[ht1n.2];rfl
 have hD8:=hD7.grow hb8 (Y:=K) (fun k q=>.inl q);have hli:=List_dx hD8 hg2.out (by decide);rw[hnm2.out] at hli;have hbw8:Below B1 w w8:=(hbw5.out.trans (hk57.out.below hKl.out)).trans (hb8.mono (by have:=hk57.out.size;omega));have hz8:=hbw8.size;rw[htl2.out];clear hcT;replace hli:=Lib.hid hli;replace hbw8:=Lib.hid hbw8;replace hD8:=Lib.hid hD8;replace hD7:=Lib.hid hD7;replace hoT:=Lib.hid hoT;replace hoT0:=Lib.hid hoT0;replace ht1:=Lib.hid ht1;replace ht1n:=Lib.hid ht1n;replace hb8:=Lib.hid hb8;go_wp2_with fail
 refine hli.out.mono ?_;clear hli;rintro e w9 ⟨vL,rfl,hoL,hb9⟩
 obtain⟨AL,cL,rfl⟩:∃A c,vL=.slice A 2 c:=by
  rcases hoL.2 with⟨rfl,e⟩ | ⟨gg,cap,cur,rfl,_⟩
  ·omega
  ·exact⟨_,cap,rfl⟩
 have hbw9:=Lib.hid (hbw8.out.trans (hb9.mono (by omega)));replace hoL:=Lib.hid hoL;replace hb9:=Lib.hid hb9;go_wp2_with fail
 go_ret
 exact⟨rfl,by rw[hB1];exact hbw9.out⟩
end Go.Proofs.YtlpojfgeocpkeaaGreatDoor
