/- Contracts: Crash: what holds between its steps. Contracts: Crash. The directory behind every prefix of the changes: each file has one name. No program in sight. A file that was synced, whose name lasts: what other names' acts leave of it. No program in sight. Acts, and what they do to a disk as plain data. No program in sight. Contracts: a disk all of whose memory was made behind a mark. A file's name by a number, and a name's number, as plain data. No program in sight. -/
import Derived.Test.YtlpojfgeocpkeaaGreatDoorOp12J
import Derived.Test.YtlpojfgeocpkeaaGreatDoorLstJ
import Derived.Test.YtlpojfgeocpkeaaGreatDoorX02
import Derived.Lib.ItoaNum
import Derived.Lib.ParseIntBCases
import Derived.Lib.Strings
namespace Go.Proofs.YtlpojfgeocpkeaaGreatDoor
open Go.RowKit
set_option linter.unusedVariables false
set_option linter.unusedSimpArgs false
section
variable {w w':World}{F:Nat→Prop}{d:Nat}{L:Lay}{s:Dsk}
end
def s2 (s:Dsk)(l:NM)(fs:List Fil):Dsk:={ s with off:=true,last:=l,names:=l,chg:=[],files:=fs }
section
variable {w wr:World}{F:Nat→Prop}{d C:Nat}{cs:Array Value}{s:Dsk}{l:NM}{fin:List Fil}{c:Cra}{v:Value}{j kk:Nat}
end
end Go.Proofs.YtlpojfgeocpkeaaGreatDoor
namespace Go.Proofs.YtlpojfgeocpkeaaGreatDoor
set_option linter.unusedVariables false
set_option linter.unusedSimpArgs false
def One (m:NM):Prop:=(m.map fun p=>p.2).Nodup∧∀p∈m,p.1≠[]
theorem insM_perm (x:List UInt8 × Nat):∀m:NM,(insM x m).Perm (x::m)
 | []=>List.Perm.refl _
 | y::r=>by
  unfold insM;split
  ·exact List.Perm.refl _
  ·exact ((insM_perm x r).cons y).trans (List.Perm.swap x y r)
theorem One.del {m:NM}(h:One m)(k:List UInt8):One (delM k m):=by
 refine⟨?_,fun p hp=>h.2 p ((delM_mem k p m).1 hp).1⟩;unfold delM;exact h.1.sublist (List.filter_sublist.map _)
theorem One.put {m:NM}(h:One m){k:List UInt8}{v:Nat}(hv:∀p∈m,p.2=v→p.1=k)(hk:k≠[]):One (putM k v m):=by
 refine⟨?_,fun p hp=>?_⟩
 rotate_left
 ·rcases (putM_mem k v p m).1 hp with rfl | h1
  ·exact hk
  ·exact h.2 p h1.1
 unfold putM;rw[((insM_perm (k,v) (delM k m)).map fun p=>p.2).nodup_iff,List.map_cons,List.nodup_cons];refine⟨fun hm=>?_,(h.del k).1⟩;obtain⟨p,hp,e⟩:=List.mem_map.1 hm;have:=(delM_mem k p m).1 hp;exact this.2 (hv p this.1 e)
theorem One.inj {m:NM}(h:One m){p q:List UInt8 × Nat}(hp:p∈m)(hq:q∈m)(e:p.2=q.2):p=q:=by
 replace h:=h.1
 induction m with
 | nil=>cases hp
 | cons y r ih =>
  rw[List.map_cons,List.nodup_cons] at h;obtain⟨h1,h2⟩:=h;rcases List.mem_cons.1 hp with ep | hp'
  ·rcases List.mem_cons.1 hq with eq | hq'
   ·rw[ep,eq]
   ·exact absurd (List.mem_map.2 ⟨q,hq',by rw[←e,ep]⟩) h1
  ·rcases List.mem_cons.1 hq with eq | hq'
   ·exact absurd (List.mem_map.2 ⟨p,hp',by rw[e,eq]⟩) h1
   ·exact ih hp' hq' h2
structure Dsk.Dir (s:Dsk):Prop where
 now:s.names=s.chg.foldl doesC s.last
 one:∀j,One ((s.chg.take j).foldl doesC s.last)
theorem Dsk.Dir.cur {s:Dsk}(h:s.Dir):One s.names:=by
 have:=h.one s.chg.length;rw[List.take_length,←h.now] at this;exact this
theorem Dsk.Dir.of_eq {s t:Dsk}(h:s.Dir)(h1:t.names=s.names)(h2:t.last=s.last)(h3:t.chg=s.chg):t.Dir:=⟨by rw[h1,h2,h3];exact h.now,by rw[h2,h3];exact h.one⟩
theorem Dsk.Dir.burn {s:Dsk}(h:s.Dir):s.burn.Dir:=by
 obtain⟨_,h2,h3,h4,_,_⟩:=@Dsk.burn_same s;exact h.of_eq h2 h3 h4
theorem Dsk.Dir.changed {s:Dsk}(h:s.Dir){c:Chg}(hc:One (doesC s.names c)):(s.changed c).1.Dir:=by
 obtain⟨e1,e2,e3,e4,e5,e6⟩:=@Dsk.burn_same s;have hb:=h.burn;unfold Dsk.changed;split
 ·exact hb
 ·refine⟨?_,fun j=>?_⟩
  ·simp only[List.foldl_append,List.foldl_cons,List.foldl_nil];rw[hb.now]
  ·simp only[]
   by_cases hj:j≤s.burn.chg.length
   ·rw[List.take_append_of_le_length hj];exact hb.one j
   ·rw[List.take_of_length_le (by simp;omega),List.foldl_append,←hb.now,e2];exact hc
theorem Dsk.Dir.create {s:Dsk}(h:s.Dir)(ok:s.Ok)(n:Nm):(s.create n).1.Dir:=by
 unfold Dsk.create;split
 ·exact h
 ·split
  ·exact h
  ·split
   ·refine Dsk.Dir.changed (s:={ s with files:=s.files++[⟨[],0⟩] }) (h.of_eq rfl rfl rfl) ?_
    unfold doesC
    simp only[if_true,Option.getD_some];split
    ·exact h.cur
    ·rename_i hne
     exact h.cur.put (fun p hp e=>by have:=(ok.names p hp).2;omega) hne
   ·exact h
theorem Dsk.Dir.delete {s:Dsk}(h:s.Dir)(n:Nm):(s.delete n).1.Dir:=by
 unfold Dsk.delete;split
 ·exact h
 ·split
  ·exact h
  ·refine h.changed ?_
   unfold doesC
   simp only[if_true];split
   ·exact h.cur
   ·exact h.cur.del n
theorem Dsk.Dir.append {s:Dsk}(h:s.Dir)(n:Nm)(x:List UInt8):(s.append n x).1.Dir:=by
 unfold Dsk.append;split
 ·exact h
 ·split
  ·exact h
  ·split
   ·exact h
   ·split
    ·exact h.burn
    ·exact h.burn.of_eq rfl rfl rfl
theorem Dsk.Dir.sync {s:Dsk}(h:s.Dir)(n:Nm):(s.sync n).1.Dir:=by
 unfold Dsk.sync;split
 ·exact h
 ·split
  ·exact h
  ·split
   ·exact h.burn
   ·exact h.burn.of_eq rfl rfl rfl
theorem Dsk.Dir.dirsync {s:Dsk}(h:s.Dir):s.dirsync.1.Dir:=by
 unfold Dsk.dirsync;split
 ·exact h
 ·split
  ·exact h.burn
  ·exact⟨rfl,fun j=>by simp only[List.take_nil,List.foldl_nil];exact h.burn.cur⟩
theorem Dsk.Dir.crash {s:Dsk}(h:s.Dir)(c:Cra):(s.crash c).Dir:=by
 unfold Dsk.crash;exact⟨rfl,fun j=>by simp only[List.take_nil,List.foldl_nil];exact h.one _⟩
theorem Dsk.Dir.new (r:Int):(Dsk.new r).Dir:=⟨rfl,fun j=>by
 unfold Dsk.new;simp only[List.take_nil,List.foldl_nil]
 exact⟨List.nodup_nil,fun p hp=>by cases hp⟩⟩
theorem getM_cons (n:List UInt8)(p:List UInt8 × Nat)(m:NM):getM n (p::m)=if p.1=n then some p.2 else getM n m:=by
 unfold getM;rw[List.find?_cons]
 by_cases h:p.1=n
 ·rw[show (p.1==n)=true from by simpa using h,if_pos h];rfl
 ·rw[show (p.1==n)=false from by simpa using h,if_neg h]
theorem getM_del {n k:List UInt8}(h:k≠n):∀m:NM,getM n (delM k m)=getM n m
 | []=>rfl
 | p::m=>by
  unfold delM;rw[List.filter_cons]
  by_cases hp:p.1=k
  ·have e:(!(p.1==k))=false:=by simpa using hp
   rw[if_neg (by rw[e];decide),getM_cons,if_neg (fun e2=>h (hp.symm.trans e2))];exact getM_del h m
  ·have e:(!(p.1==k))=true:=by simpa using hp
   rw[if_pos e,getM_cons,getM_cons];have:=getM_del h m;unfold delM at this;rw[this]
theorem getM_ins {n:List UInt8}{x:List UInt8 × Nat}(h:x.1≠n):∀m:NM,getM n (insM x m)=getM n m
 | []=>by unfold insM;rw[getM_cons,if_neg h]
 | p::m=>by
  unfold insM;split
  ·rw[getM_cons,if_neg h]
  ·rw[getM_cons,getM_cons,getM_ins h m]
theorem getM_put {n k:List UInt8}{v:Nat}(h:k≠n)(m:NM):getM n (putM k v m)=getM n m:=by
 unfold putM;rw[getM_ins h,getM_del h]
section
variable {s:Dsk}{n:Nm}{f:Nat}{d:List UInt8}
end
structure AAct where
 c:Nat
 a:ByteArray
 b:ByteArray
 n:Int
 cr:Cra
namespace AAct
def na (x:AAct):List UInt8:=x.a.data.toList
def nb (x:AAct):List UInt8:=x.b.data.toList
end AAct
def Dsk.act (s:Dsk)(x:AAct):Dsk × (List UInt8 × Nat) :=
 if x.c=0 then ((s.create x.na).1,[],(s.create x.na).2)
 else if x.c=1 then ((s.append x.na x.nb).1,[],(s.append x.na x.nb).2)
 else if x.c=2 then ((s.sync x.na).1,[],(s.sync x.na).2)
 else if x.c=3 then ((s.rename x.na x.nb).1,[],(s.rename x.na x.nb).2)
 else if x.c=4 then ((s.delete x.na).1,[],(s.delete x.na).2)
 else if x.c=5 then (s.dirsync.1,[],s.dirsync.2)
 else if x.c=6 then (s.setFuse x.n,[],0)
 else if x.c=7 then (s.crash x.cr,[],0)
 else if x.c=8 then (s.start,[],0)
 else if x.c=9 then (s,s.read x.na)
 else (s,[],0)
structure Dsk.Good (s:Dsk)(m:Nat):Prop where
 ok:s.Ok
 dir:s.Dir
 load:s.load≤m
section
variable {s t:Dsk}{m:Nat}
theorem Dsk.Good.more (h:s.Good m){m':Nat}(hm:m≤m'):s.Good m':=⟨h.ok,h.dir,Nat.le_trans h.load hm⟩
theorem Dsk.Good.names (h:s.Good m):s.names.length≤m:=by
 have h1:=doesAll_len s.chg s.last
 rw[←h.dir.now] at h1;have h2:=h.load;unfold Dsk.load at h2;omega
theorem Dsk.Good.chg (h:s.Good m):s.chg.length≤m:=by
 have h2:=h.load;unfold Dsk.load at h2;omega
theorem Dsk.load_burn (s:Dsk):s.burn.load=s.load:=by
 obtain⟨_,_,h3,h4,_,_⟩:=@Dsk.burn_same s;unfold Dsk.load;rw[h3,h4]
theorem Dsk.load_changed (s:Dsk)(c:Chg):(s.changed c).1.load≤s.load+1:=by
 have hb:=s.load_burn;unfold Dsk.changed;split
 ·show s.burn.load≤_;omega
 ·unfold Dsk.load at *
  simp only[List.length_append,List.length_singleton] at *
  omega
theorem Dsk.load_create (s:Dsk)(n:Nm):(s.create n).1.load≤s.load+1:=by
 unfold Dsk.create;split
 ·exact Nat.le_succ _
 ·split
  ·exact Nat.le_succ _
  ·split
   ·exact Dsk.load_changed { s with files:=s.files++[⟨[],0⟩] } _
   ·exact Nat.le_succ _
theorem Dsk.load_append (s:Dsk)(n:Nm)(x:List UInt8):(s.append n x).1.load≤s.load+1:=by
 have hb:=s.load_burn;unfold Dsk.append;split
 ·exact Nat.le_succ _
 ·split
  ·exact Nat.le_succ _
  ·split
   ·exact Nat.le_succ _
   ·split
    ·show s.burn.load≤_;omega
    ·show s.burn.load≤_;omega
theorem Dsk.load_sync (s:Dsk)(n:Nm):(s.sync n).1.load≤s.load+1:=by
 have hb:=s.load_burn;unfold Dsk.sync;split
 ·exact Nat.le_succ _
 ·split
  ·exact Nat.le_succ _
  ·split
   ·show s.burn.load≤_;omega
   ·show s.burn.load≤_;omega
theorem Dsk.load_delete (s:Dsk)(n:Nm):(s.delete n).1.load≤s.load+1:=by
 unfold Dsk.delete;split
 ·exact Nat.le_succ _
 ·split
  ·exact Nat.le_succ _
  ·exact Dsk.load_changed _ _
theorem Dsk.load_dirsync (hd:s.Dir):s.dirsync.1.load≤s.load+1:=by
 have hb:=s.load_burn;unfold Dsk.dirsync;split
 ·exact Nat.le_succ _
 ·split
  ·show s.burn.load≤_;omega
  ·have h1:=doesAll_len s.burn.chg s.burn.last
   rw[←hd.burn.now] at h1
   unfold Dsk.load at *
   simp only[List.length_nil] at *
   omega
theorem Dsk.load_crash (s:Dsk)(c:Cra):(s.crash c).load≤s.load+1:=by
 have h1:=doesAll_len (s.chg.take (min (max c.names 0) s.chg.length).toNat) s.last
 rw[List.length_take] at h1;unfold Dsk.crash
 unfold Dsk.load at *
 simp only[List.length_nil] at *
 omega
theorem Dsk.Good.new (r:Int):(Dsk.new r).Good 0:=⟨.new r,.new r,Nat.le_refl _⟩
theorem Dsk.Good.create (h:s.Good m)(n:Nm):(s.create n).1.Good (m+1):=⟨h.ok.create _,h.dir.create h.ok _,Nat.le_trans (s.load_create _) (Nat.succ_le_succ h.load)⟩
theorem Dsk.Good.append (h:s.Good m)(n:Nm)(x:List UInt8):(s.append n x).1.Good (m+1):=⟨h.ok.append _ _,h.dir.append _ _,Nat.le_trans (s.load_append _ _) (Nat.succ_le_succ h.load)⟩
theorem Dsk.Good.sync (h:s.Good m)(n:Nm):(s.sync n).1.Good (m+1):=⟨h.ok.sync _,h.dir.sync _,Nat.le_trans (s.load_sync _) (Nat.succ_le_succ h.load)⟩
theorem Dsk.Good.delete (h:s.Good m)(n:Nm):(s.delete n).1.Good (m+1):=⟨h.ok.delete _,h.dir.delete _,Nat.le_trans (s.load_delete _) (Nat.succ_le_succ h.load)⟩
theorem Dsk.Good.dirsync (h:s.Good m):s.dirsync.1.Good (m+1):=⟨h.ok.dirsync,h.dir.dirsync,Nat.le_trans (Dsk.load_dirsync h.dir) (Nat.succ_le_succ h.load)⟩
theorem Dsk.Good.crash (h:s.Good m)(c:Cra):(s.crash c).Good (m+1):=⟨h.ok.crash _,h.dir.crash _,Nat.le_trans (s.load_crash _) (Nat.succ_le_succ h.load)⟩
def Dsk.acts (s:Dsk):List AAct→Dsk
 | []=>s
 | x::l=>(s.act x).1.acts l
end
end Go.Proofs.YtlpojfgeocpkeaaGreatDoor
namespace Go.Proofs.YtlpojfgeocpkeaaGreatDoor
open Go.RowKit
set_option linter.unusedVariables false
set_option linter.unusedSimpArgs false
def Dw (B:Nat)(w:World)(d:Nat)(s:Dsk):Prop:=∃L,DskAt w (fun k=>B≤k∧k<w.heap.size) d L s
section
variable {B:Nat}{w w':World}{d:Nat}{s s':Dsk}
variable {m:Nat}(h:Dw B w d s)(g:s.Good m)(hm:m<1073741824)(n:ByteArray)(hn:n.size≤1073741824)
include h g hm hn
end
end Go.Proofs.YtlpojfgeocpkeaaGreatDoor
namespace Go.Proofs.YtlpojfgeocpkeaaGreatDoor
open Go.Lib
set_option linter.unusedVariables false
set_option linter.unusedSimpArgs false
def pad8 (u:Nat):List UInt8:=List.replicate (8-nDigits u) 48++decDigits u
def nameL (w:List UInt8)(u:Nat):List UInt8:=w++[46]++pad8 u
theorem c48 (k:Nat)(h:k<10):(UInt8.ofNat (48+k)).toNat=48+k:=by
 rw[UInt8.toNat_ofNat'];omega
theorem decDigits_big {u:Nat}(h:¬u<10):decDigits u=decDigits (u / 10)++[UInt8.ofNat (48+u % 10)]:=by
 rw[decDigits,dif_neg h]
theorem parse_dec (u:Nat)(hu:u<18446744073709551616):∀r,parseUint10 0 (decDigits u++r)=parseUint10 u r:=by
 induction u using Nat.strongRecOn with
 | _ u ih =>
  intro r
  by_cases h:u<10
  ·rw[decDigits_one h,List.singleton_append,parseUint10,c48 u h];rw[if_pos (by omega),if_neg (by omega),if_neg (by omega)]
   congr 1
   omega
  ·rw[decDigits_big h,List.append_assoc,ih (u / 10) (by omega) (by omega),List.singleton_append,parseUint10,c48 _ (Nat.mod_lt _ (by omega))];rw[if_pos (by omega),if_neg (by omega),if_neg (by omega)]
   congr 1
   omega
theorem parse_zeros (k:Nat)(r:List UInt8):parseUint10 0 (List.replicate k 48++r)=parseUint10 0 r:=by
 induction k with
 | zero=>rfl
 | succ k ih =>
  rw[List.replicate_succ,List.cons_append,parseUint10];have e:(48:UInt8).toNat=48:=rfl;rw[e,if_pos (by omega),if_neg (by omega),if_neg (by omega)];exact ih
theorem pad8_ne (u:Nat):pad8 u≠[]:=by
 have h:=decDigits_length u;have h2:=nDigits_pos u;unfold pad8;intro e;have e2:=congrArg List.length e;rw[List.length_append,h] at e2;simp at e2;omega
theorem parse_pad8 (u:Nat)(hu:u<18446744073709551616):parseUintB 64 (pad8 u)=.ok u:=by
 rw[parseUintB_64,parseMag,if_neg (pad8_ne u)];unfold pad8;have:=parse_dec u hu [];rw[List.append_nil] at this;rw[parse_zeros,this];rfl
theorem dgt_all (u:Nat):∀c∈decDigits u,48≤c.toNat∧c.toNat≤57:=by
 induction u using Nat.strongRecOn with
 | _ u ih =>
  intro c hc
  by_cases h:u<10
  ·rw[decDigits_one h] at hc;rw[List.mem_singleton.1 hc,c48 u h];omega
  ·rw[decDigits_big h] at hc;rcases List.mem_append.1 hc with h1 | h1
   ·exact ih (u / 10) (by omega) c h1
   ·rw[List.mem_singleton.1 h1,c48 _ (Nat.mod_lt _ (by omega))];omega
theorem pad8_all (u:Nat):∀c∈pad8 u,48≤c.toNat∧c.toNat≤57:=by
 intro c hc;unfold pad8 at hc;rcases List.mem_append.1 hc with h1 | h1
 ·rw[(List.mem_replicate.1 h1).2]
  decide
 ·exact dgt_all u c h1
theorem nDigits_le {u:Nat}(hu:u<18446744073709551616):nDigits u≤20:=by
 rcases Nat.eq_zero_or_pos u with h | h
 ·rw[nDigits_small (by omega)];omega
 ·have:=numDigits_eq u h hu
  split at this<;>omega
theorem pad8_len (u:Nat):(pad8 u).length=max 8 (nDigits u):=by
 unfold pad8;rw[List.length_append,decDigits_length,List.length_replicate];omega
theorem nameL_len (w:List UInt8)(u:Nat):(nameL w u).length=w.length+1+max 8 (nDigits u):=by
 unfold nameL;rw[List.length_append,List.length_append,pad8_len];rfl
def numP (w n:List UInt8):Option Nat:=match parseUintB 64 (trimPrefix n (w++[46])) with
 | .ok u=>if nameL w u=n then some u else none
 | _=>none
theorem numP_name (w:List UInt8)(u:Nat)(hu:u<18446744073709551616):numP w (nameL w u)=some u:=by
 unfold numP trimPrefix hasPrefix
 have e:(w++[46]).isPrefixOf (nameL w u)=true:=by
  unfold nameL;rw[List.isPrefixOf_iff_prefix];exact List.prefix_append _ _
 rw[e,if_pos rfl]
 have e2:(nameL w u).drop (w++[46]).length=pad8 u:=by
  unfold nameL;rw[List.drop_left]
 rw[e2,parse_pad8 u hu];simp
end Go.Proofs.YtlpojfgeocpkeaaGreatDoor
