/- Package block, plain: what a builder has, what its bytes are, how they are read. No program in sight. Package okey, plain: a text's key, and what keys' bytes are read as. The plain layer of slices.SortStableFunc: rotations, symMerge, and what they leave. No program in sight. The plain layer of slices.SortStableFunc: what it leaves is in order, and the same elements. No program in sight. The plain layer of slices.SortStableFunc and slices.CompactFunc: lists. No program in sight. A row of entries in memory, as an array; its elements exchanged. -/
import Derived.Test.YtlpojfgeocpkeaaGreatDoorV11
import GoSem.Op.String
import Derived.Lib.Replace
import Derived.Lib.IndexBytes
import Derived.Sort.LotA
import Derived.Test.YtlpojfgeocpkeaaGreatDoorV01
import Derived.WalkKit
import Derived.WalkLawsBesides
import Derived.WalkSpells
import Derived.Outline
import Derived.LoopTactic
import Derived.RegionTactic
import Derived.BigRegion
import Derived.BigQuiet
import Derived.Deep.QuietTactic
import Derived.Lib.Hide
namespace Go.Proofs.YtlpojfgeocpkeaaGreatDoor
set_option linter.unusedVariables false
set_option linter.unusedSimpArgs false
abbrev L:=List UInt8
theorem snocRec {α:Type}{motive:List α→Prop}(nil:motive [])(snoc:∀l a,motive l→motive (l++[a]))(l:List α):motive l:=by
 rw[←List.reverse_reverse l];generalize l.reverse=r
 induction r with
 | nil=>exact nil
 | cons a r ih=>rw[List.reverse_cons];exact snoc _ _ ih
def lessL (a b:L):Bool:=Op.bytesLess a b
theorem less_irrefl:∀a:L,lessL a a=false
 | []=>rfl
 | c::a=>by
  have ih:=less_irrefl a;unfold lessL at ih ⊢;simp[Op.bytesLess,ih]
theorem u8_lt_tri (a b:UInt8):a<b∨a=b∨b<a:=by
 rcases Nat.lt_trichotomy a.toNat b.toNat with h | h | h
 ·exact .inl (UInt8.lt_iff_toNat_lt.2 h)
 ·exact .inr (.inl (UInt8.toNat_inj.1 h))
 ·exact .inr (.inr (UInt8.lt_iff_toNat_lt.2 h))
theorem u8_not_lt {a b:UInt8}(h:a<b):¬b<a∧a≠b:=by
 rw[UInt8.lt_iff_toNat_lt] at h;refine⟨fun h'=>?_,fun h'=>?_⟩
 ·rw[UInt8.lt_iff_toNat_lt] at h';omega
 ·subst h';omega
theorem less_tri:∀a b:L,(lessL a b||a==b)=!lessL b a
 | [],[]=>rfl
 | [],_::_=>rfl
 | _::_,[]=>by simp[lessL,Op.bytesLess]
 | a::x,b::y=>by
  have ih:=less_tri x y;unfold lessL at ih ⊢;simp only[Op.bytesLess,List.cons_beq_cons];rcases u8_lt_tri a b with h | h | h
  ·obtain⟨h1,h2⟩:=u8_not_lt h;simp[h,h1,Ne.symm h2,h2]
  ·subst h;simp[ih]
  ·obtain⟨h1,h2⟩:=u8_not_lt h;simp[h,h1,h2,Ne.symm h2]
theorem less_trans:∀ {a b c:L},lessL a b=true→lessL b c=true→lessL a c=true
 | _,[],_,h,_=>by cases ‹L›<;>simp[lessL,Op.bytesLess] at h
 | _,_::_,[],_,h=>by simp[lessL,Op.bytesLess] at h
 | [],_::_,_::_,_,_=>rfl
 | a::x,b::y,c::z,h1,h2=>by
  have ih:=@less_trans x y z;unfold lessL at ih h1 h2 ⊢;simp only[Op.bytesLess,Bool.or_eq_true,Bool.and_eq_true,decide_eq_true_eq,beq_iff_eq] at h1 h2 ⊢;rcases h1 with h1 | ⟨rfl,h1⟩
  ·rcases h2 with h2 | ⟨rfl,h2⟩
   ·refine .inl ?_
    rw[UInt8.lt_iff_toNat_lt] at *
    omega
   ·exact .inl h1
  ·rcases h2 with h2 | ⟨rfl,h2⟩
   ·exact .inl h2
   ·exact .inr ⟨rfl,ih h1 h2⟩
theorem less_asymm {a b:L}(h:lessL a b=true):lessL b a=false:=by
 rcases hb:lessL b a with _ | _
 ·rfl
 ·have:=less_trans h hb;rw[less_irrefl] at this;cases this
def sharedL:L→L→Nat
 | a::az,b::bs=>if a=b then sharedL az bs+1 else 0
 | [],_=>0
 | _::_,[]=>0
theorem sharedL_le:∀a b:L,sharedL a b≤a.length∧sharedL a b≤b.length
 | [],b=>by simp[sharedL]
 | _::_,[]=>by simp[sharedL]
 | a::az,b::bs=>by
  have ih:=sharedL_le az bs;unfold sharedL;split
  ·simp;omega
  ·simp
structure BB where
 b:L
 starts:List Nat
 count:Nat
 last:L
def BB.new:BB:=⟨[],[],0,[]⟩
def BB.err (s:BB)(k v:L):Nat:=if 1024<k.length∨1024<v.length then 3 else if 0<s.count∧lessL s.last k=false then 1 else 0
def BB.lead (s:BB)(k:L):Nat:=if s.count % 4=0 then 0 else sharedL s.last k
def BB.enc (s:BB)(k v:L):L:=varL1 (s.lead k)++(textL [k.drop (s.lead k),v])
def BB.put (s:BB)(k v:L):BB:=⟨s.b++s.enc k v,if s.count % 4=0 then s.starts++[s.b.length] else s.starts,s.count+1,k⟩
def BB.add (s:BB)(k v:L):BB:=if s.err k v=0 then s.put k v else s
def BB.size (s:BB):Nat:=s.b.length+4*(s.starts.length+1)
def fours (l:List Nat):L:=l.flatMap fun n=>bigL n 4
def BB.out (s:BB):L:=s.b++fours (s.starts++[s.count])
theorem fours_len (l:List Nat):(fours l).length=4*l.length:=by
 induction l with
 | nil=>rfl
 | cons n l ih =>
  have:fours (n::l)=bigL n 4++fours l:=rfl;rw[this,List.length_append,bigL_len,ih,List.length_cons];omega
theorem BB.out_len (s:BB):s.out.length=s.size:=by
 unfold BB.out BB.size;rw[List.length_append,fours_len];simp
theorem BB.enc_len (s:BB)(k v:L):(s.enc k v).length≤k.length+v.length+27:=by
 unfold BB.enc;have h1:=varL1_len (s.lead k);have h2:=varL1_len (k.drop (s.lead k)).length;have h3:=varL1_len v.length;simp only[textL,List.length_append,List.append_nil,List.length_drop] at h2 ⊢;omega
def foldB (es:List (L × L)):BB:=es.foldl (fun s e=>s.put e.1 e.2) BB.new
theorem foldB_snoc (es:List (L × L))(e:L × L):foldB (es++[e])=(foldB es).put e.1 e.2:=by simp[foldB]
def ValidB (es:List (L × L)):Prop:=∀i k v,es[i]? = some (k,v)→(foldB (es.take i)).err k v=0
theorem ValidB.snoc {es:List (L × L)}{k v:L}(h:ValidB es)(he:(foldB es).err k v=0):ValidB (es++[(k,v)]):=by
 intro i k' v' hi;rcases Nat.lt_trichotomy i es.length with hl | hl | hl
 ·rw[List.getElem?_append_left hl] at hi;rw[List.take_append_of_le_length (by omega)];exact h i k' v' hi
 ·subst hl;simp at hi;obtain⟨rfl,rfl⟩:=hi;simp;exact he
 ·rw[List.getElem?_eq_none (by simp;omega)] at hi;cases hi
theorem ValidB.nil:ValidB []:=fun i k v h=>by simp at h
theorem foldB_count (es:List (L × L)):(foldB es).count=es.length:=by
 induction es using snocRec with
 | nil=>rfl
 | snoc es e ih=>rw[foldB_snoc];simp[BB.put,ih]
theorem foldB_starts (es:List (L × L)):(foldB es).starts.length=(es.length+3) / 4:=by
 induction es using snocRec with
 | nil=>rfl
 | snoc es e ih =>
  rw[foldB_snoc];unfold BB.put;rw[foldB_count];simp only[List.length_append,List.length_cons,List.length_nil];split
  ·rw[List.length_append,ih];simp;omega
  ·rw[ih];omega
def escL:L→L
 | []=>[]
 | c::r=>if c=0 then 0::255::escL r else c::escL r
def strKey (k:L):L:=2::(escL k++[0,1])
theorem escL_len:∀k:L,(escL k).length≤2*k.length∧k.length≤(escL k).length
 | []=>by simp[escL]
 | c::r=>by
  have:=escL_len r;unfold escL
  split<;>simp<;>omega
theorem zero_ne:([0]:List UInt8)≠[]:=by simp
theorem esc_repl:∀s:L,Lib.replaceK [0] [0,255] (Lib.count s [0]) s=escL s∧Lib.count s [0]≤s.length
 | []=>by
  have:Lib.count [] [0]=0:=Lib.count_miss rfl;rw[this];exact⟨rfl,Nat.zero_le _⟩
 | c::t=>by
  obtain⟨ih1,ih2⟩:=esc_repl t
  by_cases hc:c=0
  ·subst hc
   have hi:Lib.index (0::t) [0]=((0:Nat):Int):=by simp[Lib.index]
   have hn:=Lib.count_hit zero_ne hi
   have hd:(0::t).drop (0+([0]:L).length)=t:=by simp
   rw[hd] at hn;rw[hn,Nat.add_comm 1,Lib.replaceK_hit _ _ _ _ 0 hi,hd,ih1];refine⟨by simp[escL],by simp;omega⟩
  ·have hp:([0]:L).isPrefixOf (c::t)=false:=by
    simp[List.isPrefixOf];exact fun e=>hc e.symm
   by_cases hm:Lib.index t [0]=-1
   ·have hi:Lib.index (c::t) [0]=-1:=by
     unfold Lib.index;rw[hp,if_neg (by decide),hm];rfl
    rw[Lib.count_miss hi];rw[Lib.count_miss hm] at ih1;refine⟨?_,Nat.zero_le _⟩
    have:escL (c::t)=c::escL t:=by rw[escL,if_neg hc]
    rw[this,←ih1];rfl
   ·obtain⟨i,hi⟩:∃i:Nat,Lib.index t [0]=i:=by
     have:=Lib.index_ge t [0];exact⟨(Lib.index t [0]).toNat,by omega⟩
    have hi2:Lib.index (c::t) [0]=((i+1:Nat):Int):=by
     unfold Lib.index;rw[hp,if_neg (by decide),if_neg (by simpa using hm),hi];omega
    have hn:=Lib.count_hit zero_ne hi;have hn2:=Lib.count_hit zero_ne hi2
    have hd:(c::t).drop (i+1+([0]:L).length)=t.drop (i+([0]:L).length):=by simp
    rw[hd] at hn2;rw[hn2,Nat.add_comm 1,Lib.replaceK_hit _ _ _ _ (i+1) hi2,hd];rw[hn,Nat.add_comm 1,Lib.replaceK_hit _ _ _ _ i hi] at ih1
    have:escL (c::t)=c::escL t:=by rw[escL,if_neg hc]
    rw[this,←ih1];refine⟨by simp,?_⟩;rw[hn] at ih2;show _≤t.length+1;omega
theorem repl_esc (s:L):Lib.replaceAll s [0] [0,255]=escL s:=by
 unfold Lib.replaceAll Lib.replace;rw[if_neg (by decide)];unfold Lib.replaceNum;rw[if_pos (.inl (by decide))];exact (esc_repl s).1
structure Ent where
 key:L
 value:L
 seq:Nat
 gone:Bool
def internalL (key:L)(seq:Nat):L:=strKey key++bigL (18446744073709551615-seq) 8
def rowK (e:Ent):L:=internalL e.key e.seq
def rowV (e:Ent):L:=(if e.gone then 1 else 0)::e.value
theorem internalL_len (k:L)(q:Nat):(internalL k q).length≤2*k.length+11:=by
 have:=escL_len k;unfold internalL strKey;rw[List.length_append,bigL_len];simp;omega
end Go.Proofs.YtlpojfgeocpkeaaGreatDoor
namespace Go.Proofs.YtlpojfgeocpkeaaGreatDoor
open Go.Sort
set_option linter.unusedVariables false
set_option linter.unusedSimpArgs false
section
variable {α:Type}[Inhabited α]
def srch (p:Nat→Bool)(i j:Nat):Nat:=if h:i<j then (if p ((i+j) / 2) then srch p ((i+j) / 2+1) j else srch p i ((i+j) / 2)) else i
termination_by j-i
theorem srch_spec (p:Nat→Bool):∀(n i j:Nat),j-i=n→i≤j→i≤srch p i j∧srch p i j≤j∧(srch p i j=i∨p (srch p i j-1)=true)∧(srch p i j=j∨p (srch p i j)=false):=by
 intro n
 induction n using Nat.strongRecOn with
 | ind n ih =>
  intro i j hn hij;rw[srch];split
  ·rename_i h
   split
   ·rename_i hp
    obtain⟨h1,h2,h3,h4⟩:=ih (j-((i+j) / 2+1)) (by omega) _ _ rfl (by omega);refine⟨by omega,h2,.inr ?_,h4⟩;rcases h3 with h3 | h3
    ·rw[h3,Nat.add_sub_cancel];exact hp
    ·exact h3
   ·rename_i hp
    obtain⟨h1,h2,h3,h4⟩:=ih ((i+j) / 2-i) (by omega) _ _ rfl (by omega);refine⟨h1,by omega,h3,.inr ?_⟩;rcases h4 with h4 | h4
    ·rw[h4];simpa using hp
    ·exact h4
  ·have:i=j:=by omega
   exact⟨Nat.le_refl _,hij,.inl rfl,.inl this⟩
def swapR (a b:Nat):Nat→Nat→Array α→Array α
 | _,0,d=>d
 | i,k+1,d=>swapR a b (i+1) k (swp d (a+i) (b+i))
theorem swapR_size (a b:Nat):∀(k i:Nat) (d:Array α),(swapR a b i k d).size=d.size
 | 0,_,_=>rfl
 | k+1,i,d=>by unfold swapR;rw[swapR_size a b k,swp_size]
theorem swapR_get (a b:Nat):∀(k i:Nat) (d:Array α),a+i+k≤b+i→b+i+k≤d.size→∀t,(swapR a b i k d)[t]! = if a+i≤t∧t<a+i+k then d[t+b-a]! else if b+i≤t∧t<b+i+k then d[t+a-b]! else d[t]!
 | 0,i,d,h1,h2,t=>by
  unfold swapR;rw[if_neg (by omega),if_neg (by omega)]
 | k+1,i,d,h1,h2,t=>by
  unfold swapR;rw[swapR_get a b k (i+1) _ (by omega) (by rw[swp_size];omega)];have g:=swp_get d (show a+i<d.size by omega) (show b+i<d.size by omega);rw[g,g,g]
  (repeat' split)<;>first | rfl | (exfalso;omega) | (congr 1;omega)
theorem swapR_perm (a b lo hi:Nat):∀(k i:Nat) (d:Array α),lo≤a+i→lo≤b+i→a+i+k≤hi→b+i+k≤hi→hi≤d.size→PermIn lo hi d (swapR a b i k d)
 | 0,i,d,_,_,_,_,_=>permIn_refl _ _ _
 | k+1,i,d,h1,h2,h3,h4,h5=>by
  unfold swapR;exact permIn_trans _ _ _ _ _ (swp_permIn d lo hi (a+i) (b+i) h1 (by omega) h2 (by omega) h5) (swapR_perm a b lo hi k (i+1) _ (by omega) (by omega) (by omega) (by omega) (by rw[swp_size];exact h5))
def rotG (m:Nat):Nat→Nat→Nat→Array α→Array α
 | 0,_,_,d=>d
 | f+1,i,j,d=>if i=j then swapR (m-i) m 0 i d else if j<i then rotG m f (i-j) j (swapR (m-i) m 0 j d) else rotG m f i (j-i) (swapR (m-i) (m+j-i) 0 i d)
theorem rotG_size (m:Nat):∀(f i j:Nat) (d:Array α),(rotG m f i j d).size=d.size
 | 0,_,_,_=>rfl
 | f+1,i,j,d=>by
  unfold rotG;split
  ·exact swapR_size _ _ _ _ _
  ·split
   ·rw[rotG_size m f,swapR_size]
   ·rw[rotG_size m f,swapR_size]
theorem rotG_get (m:Nat):∀(f i j:Nat) (d:Array α),0<i→0<j→i+j≤f→i≤m→m+j≤d.size→∀t,(rotG m f i j d)[t]! = if m-i≤t∧t<m-i+j then d[t+i]! else if m-i+j≤t∧t<m+j then d[t-j]! else d[t]!
 | 0,i,j,d,h1,h2,h3,_,_,t=>by omega
 | f+1,i,j,d,h1,h2,h3,h4,h5,t=>by
  unfold rotG;split
  ·rename_i e
   subst e;rw[swapR_get _ _ _ _ _ (by omega) (by omega)]
   (repeat' split)<;>first | rfl | (exfalso;omega) | (congr 1;omega)
  ·split
   ·rw[rotG_get m f (i-j) j _ (by omega) h2 (by omega) (by omega) (by rw[swapR_size];omega)];have g:=swapR_get (m-i) m j 0 d (by omega) (by omega);rw[g,g,g]
    (repeat' split)<;>first | rfl | (exfalso;omega) | (congr 1;omega)
   ·rw[rotG_get m f i (j-i) _ h1 (by omega) (by omega) h4 (by rw[swapR_size];omega)];have g:=swapR_get (m-i) (m+j-i) i 0 d (by omega) (by omega);rw[g,g,g]
    (repeat' split)<;>first | rfl | (exfalso;omega) | (congr 1;omega)
theorem rotG_perm (m lo hi:Nat):∀(f i j:Nat) (d:Array α),0<i→0<j→i+j≤f→lo+i≤m→m+j≤hi→hi≤d.size→PermIn lo hi d (rotG m f i j d)
 | 0,i,j,d,_,_,_,_,_,_=>permIn_refl _ _ _
 | f+1,i,j,d,h1,h2,h3,h4,h5,h6=>by
  unfold rotG;split
  ·exact swapR_perm _ _ lo hi _ _ _ (by omega) (by omega) (by omega) (by omega) h6
  ·split
   ·exact permIn_trans _ _ _ _ _ (swapR_perm (m-i) m lo hi j 0 d (by omega) (by omega) (by omega) (by omega) h6) (rotG_perm m lo hi f (i-j) j _ (by omega) h2 (by omega) (by omega) h5 (by rw[swapR_size];exact h6))
   ·exact permIn_trans _ _ _ _ _ (swapR_perm (m-i) (m+j-i) lo hi i 0 d (by omega) (by omega) (by omega) (by omega) h6) (rotG_perm m lo hi f i (j-i) _ h1 (by omega) (by omega) h4 (by omega) (by rw[swapR_size];exact h6))
def upG:Nat→Nat→Array α→Array α
 | _,0,d=>d
 | k,r+1,d=>upG (k+1) r (swp d k (k+1))
theorem upG_size:∀(r k:Nat) (d:Array α),(upG k r d).size=d.size
 | 0,_,_=>rfl
 | r+1,k,d=>by unfold upG;rw[upG_size r,swp_size]
theorem upG_get:∀(r k:Nat) (d:Array α),k+r<d.size→∀t,(upG k r d)[t]! = if k≤t∧t<k+r then d[t+1]! else if t=k+r then d[k]! else d[t]!
 | 0,k,d,h,t=>by
  unfold upG;rw[if_neg (by omega)];split
  ·rename_i e;rw[e,Nat.add_zero]
  ·rfl
 | r+1,k,d,h,t=>by
  unfold upG;rw[upG_get r (k+1) _ (by rw[swp_size];omega)];have g:=swp_get d (show k<d.size by omega) (show k+1<d.size by omega);rw[g,g,g]
  (repeat' split)<;>first | rfl | (exfalso;omega) | (congr 1;omega)
theorem upG_perm (lo hi:Nat):∀(r k:Nat) (d:Array α),lo≤k→k+r<hi→hi≤d.size→PermIn lo hi d (upG k r d)
 | 0,_,_,_,_,_=>permIn_refl _ _ _
 | r+1,k,d,h1,h2,h3=>by
  unfold upG;exact permIn_trans _ _ _ _ _ (swp_permIn d lo hi k (k+1) h1 (by omega) (by omega) (by omega) h3) (upG_perm lo hi r (k+1) _ (by omega) (by omega) (by rw[swp_size];exact h3))
def dnG (i:Nat):Nat→Array α→Array α
 | 0,d=>d
 | r+1,d=>dnG i r (swp d (i+r+1) (i+r))
theorem dnG_size (i:Nat):∀(r:Nat) (d:Array α),(dnG i r d).size=d.size
 | 0,_=>rfl
 | r+1,d=>by unfold dnG;rw[dnG_size i r,swp_size]
theorem dnG_get (i:Nat):∀(r:Nat) (d:Array α),i+r<d.size→∀t,(dnG i r d)[t]! = if i<t∧t≤i+r then d[t-1]! else if t=i then d[i+r]! else d[t]!
 | 0,d,h,t=>by
  unfold dnG;rw[if_neg (by omega)];split
  ·rename_i e;rw[e,Nat.add_zero]
  ·rfl
 | r+1,d,h,t=>by
  unfold dnG;rw[dnG_get i r _ (by rw[swp_size];omega)];have g:=swp_get d (show i+r+1<d.size by omega) (show i+r<d.size by omega);rw[g,g,g]
  (repeat' split)<;>first | rfl | (exfalso;omega) | (congr 1;omega)
theorem dnG_perm (i lo hi:Nat):∀(r:Nat) (d:Array α),lo≤i→i+r<hi→hi≤d.size→PermIn lo hi d (dnG i r d)
 | 0,_,_,_,_=>permIn_refl _ _ _
 | r+1,d,h1,h2,h3=>by
  unfold dnG;exact permIn_trans _ _ _ _ _ (swp_permIn d lo hi (i+r+1) (i+r) (by omega) (by omega) (by omega) (by omega) h3) (dnG_perm i lo hi r _ h1 (by omega) (by rw[swp_size];exact h3))
variable (lt:α→α→Bool)
def symS (a m b:Nat)(d:Array α):Nat:=srch (fun c=>!lt d[(a+b) / 2+m-1-c]! d[c]!) (if (a+b) / 2<m then (a+b) / 2+m-b else a) (if (a+b) / 2<m then (a+b) / 2 else m)
def symR (a m b:Nat)(d:Array α)(s:Nat):Array α:=if s<m∧m<(a+b) / 2+m-s then rotG m ((a+b) / 2+m-s-s) (m-s) ((a+b) / 2+m-s-m) d else d
def symM:Nat→Nat→Nat→Nat→Array α→Array α
 | 0,_,_,_,d=>d
 | f+1,a,m,b,d =>
  if m-a=1 then upG a (srch (fun h=>lt d[h]! d[a]!) m b-1-a) d
  else if b-m=1 then dnG (srch (fun h=>!lt d[m]! d[h]!) a m) (m-srch (fun h=>!lt d[m]! d[h]!) a m) d
  else
   let s:=symS lt a m b d
   let d1:=symR a m b d s
   let d2:=if a<s∧s<(a+b) / 2 then symM f a s ((a+b) / 2) d1 else d1
   if (a+b) / 2<(a+b) / 2+m-s∧(a+b) / 2+m-s<b then symM f ((a+b) / 2) ((a+b) / 2+m-s) b d2 else d2
variable {lt}
theorem symS_spec (a m b:Nat)(d:Array α)(h1:a<m)(h2:m<b) :
  let mid:=(a+b) / 2
  let s:=symS lt a m b d
  let e:=mid+m-s
  a≤s∧s≤m∧s≤mid∧m≤e∧e≤b∧mid≤e∧s+(e-m)=mid∧mid+(m-s)=e ∧
   (s=a∨e=b∨lt d[e]! d[s-1]! = false)∧(s=m∨e=m∨lt d[e-1]! d[s]! = true):=by
 intro mid s e
 have hs:=srch_spec (fun c=>!lt d[(a+b) / 2+m-1-c]! d[c]!) _ (if (a+b) / 2<m then (a+b) / 2+m-b else a) (if (a+b) / 2<m then (a+b) / 2 else m) rfl (by split<;>omega)
 change _≤s∧s≤_∧(s=_∨_)∧(s=_∨_) at hs;obtain⟨g1,g2,g3,g4⟩:=hs;have hmid:mid=(a+b) / 2:=rfl;have he:e=mid+m-s:=rfl
 have hb1:a≤s∧s≤m∧s≤mid∧mid+m-b≤s:=by
  revert g1 g2
  split<;>intro g1 g2<;>refine⟨?_,?_,?_,?_⟩<;>omega
 refine⟨hb1.1,hb1.2.1,hb1.2.2.1,by omega,by omega,by omega,by omega,by omega,?_,?_⟩
 ·rcases g3 with g3 | g3
  ·revert g3
   split
   ·intro g3;exact .inr (.inl (by omega))
   ·intro g3;exact .inl g3
  ·by_cases hsa:s=a
   ·exact .inl hsa
   ·refine .inr (.inr ?_)
    have:(a+b) / 2+m-1-(s-1)=e:=by omega
    have g3':(!lt d[(a+b) / 2+m-1-(s-1)]! d[s-1]!)=true:=g3;rw[this] at g3'
    simpa using g3'
 ·rcases g4 with g4 | g4
  ·revert g4
   split
   ·intro g4;exact .inr (.inl (by omega))
   ·intro g4;exact .inl g4
  ·by_cases hsm:s=m
   ·exact .inl hsm
   ·refine .inr (.inr ?_)
    have:(a+b) / 2+m-1-s=e-1:=by omega
    have g4':(!lt d[(a+b) / 2+m-1-s]! d[s]!)=false:=g4;rw[this] at g4'
    simpa using g4'
theorem symR_size (a m b:Nat)(d:Array α)(s:Nat):(symR a m b d s).size=d.size:=by
 unfold symR;split
 ·exact rotG_size _ _ _ _ _
 ·rfl
theorem symM_size:∀(f a m b:Nat) (d:Array α),(symM lt f a m b d).size=d.size
 | 0,_,_,_,_=>rfl
 | f+1,a,m,b,d=>by
  unfold symM;split
  ·exact upG_size _ _ _
  split
  ·exact dnG_size _ _ _
  simp only;split
  ·rw[symM_size f];split
   ·rw[symM_size f,symR_size]
   ·exact symR_size _ _ _ _ _
  ·split
   ·rw[symM_size f,symR_size]
   ·exact symR_size _ _ _ _ _
end
section
variable {α:Type}[Inhabited α]{lt:α→α→Bool}
theorem symR_get {a m b s:Nat}{d:Array α}(h1:s≤m)(h2:s≤(a+b) / 2)(h3:(a+b) / 2+m-s≤d.size)(t:Nat) :
  (symR a m b d s)[t]! = if s≤t∧t<(a+b) / 2 then d[t+(m-s)]! else if (a+b) / 2≤t∧t<(a+b) / 2+m-s then d[t-((a+b) / 2-s)]! else d[t]! := by
 unfold symR;split
 ·rw[rotG_get m _ _ _ _ (by omega) (by omega) (by omega) (by omega) (by omega)]
  (repeat' split)<;>first | rfl | (exfalso;omega) | (congr 1;omega)
 ·(repeat' split)<;>first | rfl | (exfalso;omega) | (congr 1;omega)
theorem symR_perm {a m b s lo hi:Nat}{d:Array α}(h1:lo≤s)(h2:(a+b) / 2+m-s≤hi)(h3:hi≤d.size):PermIn lo hi d (symR a m b d s):=by
 unfold symR;split
 ·exact rotG_perm m lo hi _ _ _ _ (by omega) (by omega) (by omega) (by omega) (by omega) h3
 ·exact permIn_refl _ _ _
theorem symM_perm:∀(f a m b:Nat) (d:Array α),a<m→m<b→b≤d.size→PermIn a b d (symM lt f a m b d)
 | 0,a,m,b,d,_,_,_=>permIn_refl _ _ _
 | f+1,a,m,b,d,h1,h2,h3=>by
  unfold symM;split
  ·obtain⟨g1,g2,_,_⟩:=srch_spec (fun h=>lt d[h]! d[a]!) _ m b rfl (by omega);exact upG_perm a b _ _ _ (Nat.le_refl _) (by omega) h3
  split
  ·obtain⟨g1,g2,_,_⟩:=srch_spec (fun h=>!lt d[m]! d[h]!) _ a m rfl (by omega);exact dnG_perm _ a b _ _ g1 (by omega) h3
  obtain⟨e1,e2,e3,e4,e5,e6,e7,e8,_,_⟩:=symS_spec (lt:=lt) a m b d h1 h2;simp only at e3 e4 e5 e6 e7 e8 ⊢
  generalize symS lt a m b d=s at *
  have p1:PermIn a b d (symR a m b d s):=symR_perm e1 e5 h3;have z1:=symR_size a m b d s
  generalize symR a m b d s=d1 at *
  have p2:PermIn a b d1 (if a<s∧s<(a+b) / 2 then symM lt f a s ((a+b) / 2) d1 else d1):=by
   split
   ·rename_i hc
    exact permIn_mono _ _ _ _ _ _ (Nat.le_refl _) (by omega) (by omega) (symM_perm f a s ((a+b) / 2) d1 hc.1 hc.2 (by omega))
   ·exact permIn_refl _ _ _
  have z2:(if a<s∧s<(a+b) / 2 then symM lt f a s ((a+b) / 2) d1 else d1).size=d.size:=by rw[p2.1,z1]
  generalize (if a<s∧s<(a+b) / 2 then symM lt f a s ((a+b) / 2) d1 else d1)=d2 at *
  refine permIn_trans _ _ _ _ _ (permIn_trans _ _ _ _ _ p1 p2) ?_;split
  ·rename_i hc
   exact permIn_mono _ _ _ _ _ _ (by omega) (Nat.le_refl _) (by omega) (symM_perm f ((a+b) / 2) ((a+b) / 2+m-s) b d2 hc.1 hc.2 (by omega))
  ·exact permIn_refl _ _ _
theorem sle (hS:SWO lt){a b:Nat}{d:Array α}(h:SortedIn lt a b d){i j:Nat}(h1:a≤i)(h2:i≤j)(h3:j<b):lt d[j]! d[i]! = false:=by
 rcases Nat.lt_or_eq_of_le h2 with h | rfl
 ·exact (by assumption:SortedIn lt a b d) i j h1 h h3
 ·exact hS.irrefl _
theorem symM_sorted (hS:SWO lt):∀(f a m b:Nat) (d:Array α),b-a≤f→a<m→m<b→b≤d.size→SortedIn lt a m d→SortedIn lt m b d→SortedIn lt a b (symM lt f a m b d)
 | 0,a,m,b,d,h0,h1,h2,_,_,_=>by omega
 | f+1,a,m,b,d,h0,h1,h2,h3,hA,hB=>by
  unfold symM;split
  ·rename_i hm
   obtain⟨g1,g2,g3,g4⟩:=srch_spec (fun h=>lt d[h]! d[a]!) _ m b rfl (by omega)
   generalize srch (fun h=>lt d[h]! d[a]!) m b=i at *
   intro x y hx hxy hy;rw[upG_get _ _ _ (by omega),upG_get _ _ _ (by omega)]
   by_cases c1:y<i-1
   ·rw[if_pos (by omega),if_pos (by omega)];exact sle hS hB (by omega) (by omega) (by omega)
   ·by_cases c2:y=i-1
    ·rw[if_neg (by omega),if_pos (by omega),if_pos (by omega)];rcases g3 with g3 | g3
     ·omega
     ·exact hS.ntrans _ _ _ (hS.asymmA g3) (sle hS hB (i:=x+1) (j:=i-1) (by omega) (by omega) (by omega))
    ·rw[if_neg (by omega),if_neg (by omega)]
     by_cases c3:x<i-1
     ·rw[if_pos (by omega)];exact sle hS hB (by omega) (by omega) (by omega)
     ·by_cases c4:x=i-1
      ·rw[if_neg (by omega),if_pos (by omega)];rcases g4 with g4 | g4
       ·omega
       ·exact hS.ntrans _ _ _ (sle hS hB (i:=i) (j:=y) (by omega) (by omega) (by omega)) (by simpa using g4)
      ·rw[if_neg (by omega),if_neg (by omega)];exact sle hS hB (by omega) (by omega) (by omega)
  split
  ·rename_i hm
   obtain⟨g1,g2,g3,g4⟩:=srch_spec (fun h=>!lt d[m]! d[h]!) _ a m rfl (by omega)
   generalize srch (fun h=>!lt d[m]! d[h]!) a m=i at *
   intro x y hx hxy hy;rw[dnG_get _ _ _ (by omega),dnG_get _ _ _ (by omega)];rw[show i+(m-i)=m by omega]
   by_cases c1:y<i
   ·rw[if_neg (by omega),if_neg (by omega),if_neg (by omega),if_neg (by omega)];exact sle hS hA (by omega) (by omega) (by omega)
   ·by_cases c2:y=i
    ·rw[if_neg (by omega),if_pos (by omega),if_neg (by omega),if_neg (by omega)];rcases g3 with g3 | g3
     ·omega
     ·exact hS.ntrans _ _ _ (by simpa using g3) (sle hS hA (i:=x) (j:=i-1) (by omega) (by omega) (by omega))
    ·rw[if_pos (by omega)]
     by_cases c3:x<i
     ·rw[if_neg (by omega),if_neg (by omega)];exact sle hS hA (by omega) (by omega) (by omega)
     ·by_cases c4:x=i
      ·rw[if_neg (by omega),if_pos (by omega)];rcases g4 with g4 | g4
       ·omega
       ·exact hS.ntrans _ _ _ (sle hS hA (i:=i) (j:=y-1) (by omega) (by omega) (by omega)) (hS.asymmA (by simpa using g4))
      ·rw[if_pos (by omega)];exact sle hS hA (by omega) (by omega) (by omega)
  rename_i hm1 hm2
  obtain⟨e1,e2,e3,e4,e5,e6,e7,e8,e9,e10⟩:=symS_spec (lt:=lt) a m b d h1 h2;simp only at e3 e4 e5 e6 e7 e8 e9 e10 ⊢
  generalize symS lt a m b d=s at *
  have g:=fun t=>symR_get (a:=a) (b:=b) (m:=m) (s:=s) (d:=d) e2 e3 (by omega) t;have z1:=symR_size a m b d s
  generalize symR a m b d s=d1 at *
  obtain⟨mid,hmid,hm3⟩:∃mid,(a+b) / 2=mid∧2*mid≤a+b∧a+b≤2*mid+1:=⟨_,rfl,by omega,by omega⟩;simp only[hmid] at g e3 e4 e5 e6 e7 e8 e9 e10 ⊢;obtain⟨e,he,he2⟩:∃e,mid+m-s=e∧e+s=mid+m:=⟨_,rfl,by omega⟩;simp only[he] at g e4 e5 e6 e7 e8 e9 e10 ⊢
  have hlo:a<mid:=by omega
  have hhi:mid<b:=by omega
  have cross:∀x y,a≤x→x<mid→mid≤y→y<b→lt d1[y]! d1[x]! = false:=by
   intro x y h4 h5 h6 h7;rw[g,g];rw[if_neg (by omega)]
   by_cases c1:y<e
   ·rw[if_pos (by omega)]
    by_cases c2:s≤x
    ·rw[if_pos (by omega)];rcases e10 with q | q | q
     ·omega
     ·omega
     ·exact hS.ntrans _ _ _ (sle hS hA (i:=s) (j:=y-(mid-s)) (by omega) (by omega) (by omega)) (hS.ntrans _ _ _ (hS.asymmA q) (sle hS hB (i:=x+(m-s)) (j:=e-1) (by omega) (by omega) (by omega)))
    ·rw[if_neg (by omega),if_neg (by omega)];exact sle hS hA (by omega) (by omega) (by omega)
   ·rw[if_neg (by omega)]
    by_cases c2:s≤x
    ·rw[if_pos (by omega)];exact sle hS hB (by omega) (by omega) (by omega)
    ·rw[if_neg (by omega),if_neg (by omega)];rcases e9 with q | q | q
     ·omega
     ·omega
     ·exact hS.ntrans _ _ _ (sle hS hB (i:=e) (j:=y) (by omega) (by omega) (by omega)) (hS.ntrans _ _ _ q (sle hS hA (i:=x) (j:=s-1) (by omega) (by omega) (by omega)))
  have l1:SortedIn lt a s d1:=fun x y h4 h5 h6=>by
   rw[g,g,if_neg (by omega),if_neg (by omega),if_neg (by omega),if_neg (by omega)];exact sle hS hA (by omega) (by omega) (by omega)
  have l2:SortedIn lt s mid d1:=fun x y h4 h5 h6=>by
   rw[g,g,if_pos (by omega),if_pos (by omega)];exact sle hS hB (by omega) (by omega) (by omega)
  have r1:SortedIn lt mid e d1:=fun x y h4 h5 h6=>by
   rw[g,g,if_neg (by omega),if_pos (by omega),if_neg (by omega),if_pos (by omega)];exact sle hS hA (by omega) (by omega) (by omega)
  have r2:SortedIn lt e b d1:=fun x y h4 h5 h6=>by
   rw[g,g,if_neg (by omega),if_neg (by omega),if_neg (by omega),if_neg (by omega)];exact sle hS hB (by omega) (by omega) (by omega)
  clear g
  obtain⟨d2,hd2⟩:∃d2,(if a<s∧s<mid then symM lt f a s mid d1 else d1)=d2:=⟨_,rfl⟩
  rw[hd2]
  have left:PermIn a mid d1 d2∧SortedIn lt a mid d2:=by
   rw[←hd2];split
   ·rename_i hc
    exact⟨symM_perm f a s mid d1 hc.1 hc.2 (by omega),symM_sorted hS f a s mid d1 (by omega) hc.1 hc.2 (by omega) l1 l2⟩
   ·rename_i hc
    refine⟨permIn_refl _ _ _,?_⟩
    by_cases q:a<s
    ·have:s=mid:=by omega
     rw[←this];exact l1
    ·have:a=s:=by omega
     rw[this];exact l2
  have z2:d2.size=d.size:=by rw[left.1.1,z1]
  have far:∀t,mid≤t→d2[t]! = d1[t]! := fun t ht=>left.1.2.1 t (.inr ht)
  have cross2:∀x y,a≤x→x<mid→mid≤y→y<b→lt d2[y]! d2[x]! = false:=by
   intro x y h4 h5 h6 h7;have:=permIn_all d1 d2 a mid (fun v=>∀y,mid≤y→y<b→lt d1[y]! v=false) (by omega) left.1 (fun i q1 q2 y q3 q4=>cross i y q1 q2 q3 q4) x h4 h5 y h6 h7;rw[far y h6];exact this
  have r1':SortedIn lt mid e d2:=fun x y h4 h5 h6=>by rw[far x h4,far y (by omega)];exact r1 x y h4 h5 h6
  have r2':SortedIn lt e b d2:=fun x y h4 h5 h6=>by rw[far x (by omega),far y (by omega)];exact r2 x y h4 h5 h6
  obtain⟨d3,hd3⟩:∃d3,(if mid<e∧e<b then symM lt f mid e b d2 else d2)=d3:=⟨_,rfl⟩
  rw[hd3]
  have right:PermIn mid b d2 d3∧SortedIn lt mid b d3:=by
   rw[←hd3];split
   ·rename_i hc
    exact⟨symM_perm f mid e b d2 hc.1 hc.2 (by omega),symM_sorted hS f mid e b d2 (by omega) hc.1 hc.2 (by omega) r1' r2'⟩
   ·rename_i hc
    refine⟨permIn_refl _ _ _,?_⟩
    by_cases q:mid<e
    ·have:e=b:=by omega
     rw[←this];exact r1'
    ·have:e=mid:=by omega
     rw[←this];exact r2'
  have near:∀t,t<mid→d3[t]! = d2[t]! := fun t ht=>right.1.2.1 t (.inl ht);intro x y h4 h5 h6
  by_cases c1:y<mid
  ·rw[near x (by omega),near y c1];exact left.2 x y h4 h5 c1
  ·by_cases c2:mid≤x
   ·exact right.2 x y c2 h5 h6
   ·have:=permIn_all d2 d3 mid b (fun v=>lt v d2[x]! = false) (by omega) right.1 (fun i q1 q2=>cross2 x i h4 (by omega) q1 q2) y (by omega) h6;rw[near x (by omega)];exact this
def insB (lt:α→α→Bool)(n:Nat):Nat→Nat→Array α→Array α
 | 0,a,d=>insertionSort lt d a n
 | f+1,a,d=>if a+20≤n then insB lt n f (a+20) (insertionSort lt d a (a+20)) else insertionSort lt d a n
def mrgB (lt:α→α→Bool)(n z:Nat):Nat→Nat→Array α→Array α
 | 0,a,d=>if a+z<n then symM lt n a (a+z) n d else d
 | f+1,a,d=>if a+2*z≤n then mrgB lt n z f (a+2*z) (symM lt n a (a+z) (a+2*z) d) else if a+z<n then symM lt n a (a+z) n d else d
def stbG (lt:α→α→Bool)(n:Nat):Nat→Nat→Array α→Array α
 | 0,_,d=>d
 | f+1,z,d=>if z<n then stbG lt n f (z*2) (mrgB lt n z n 0 d) else d
def stableA (lt:α→α→Bool)(d:Array α):Array α:=stbG lt d.size d.size 20 (insB lt d.size d.size 0 d)
def BlkS (lt:α→α→Bool)(z n:Nat)(d:Array α):Prop:=∀k,SortedIn lt (k*z) (min ((k+1)*z) n) d
theorem ssame {a b:Nat}{d d':Array α}(h:SortedIn lt a b d)(he:∀t,a≤t→t<b→d'[t]! = d[t]!):SortedIn lt a b d':=fun x y h1 h2 h3=>by
 rw[he x h1 (by omega),he y (by omega) h3];exact h x y h1 h2 h3
theorem sless {a b a' b':Nat}{d:Array α}(h:SortedIn lt a b d)(h1:a≤a')(h2:b'≤b):SortedIn lt a' b' d:=fun x y h3 h4 h5=>h x y (by omega) h4 (by omega)
theorem insB_spec (hS:SWO lt)(n:Nat):∀(f q:Nat) (d:Array α),d.size=n→q*20≤n→n<(q+f)*20+20→(∀k,k<q→SortedIn lt (k*20) ((k+1)*20) d) →
  PermIn 0 n d (insB lt n f (q*20) d)∧BlkS lt 20 n (insB lt n f (q*20) d):=by
 have last:∀(q:Nat) (d:Array α),d.size=n→q*20≤n→n<(q+1)*20→(∀k,k<q→SortedIn lt (k*20) ((k+1)*20) d)→PermIn 0 n d (insertionSort lt d (q*20) n)∧BlkS lt 20 n (insertionSort lt d (q*20) n):=by
  intro q d hz hq hn hk;obtain⟨h1,h2⟩:=insertionSort_holds (lt:=lt) hS d (q*20) n hq (by omega);refine⟨permIn_mono _ _ _ _ _ _ (Nat.zero_le _) (Nat.le_refl _) (by omega) h1,fun k=>?_⟩;rcases Nat.lt_trichotomy k q with c | c | c
  ·refine (ssame (sless (hk k c) (Nat.le_refl _) (Nat.min_le_left _ _)) fun t h3 h4=>h1.2.1 t (.inl ?_));have:(k+1)*20≤q*20:=Nat.mul_le_mul_right _ c;omega
  ·rw[c];exact sless h2 (Nat.le_refl _) (Nat.min_le_right _ _)
  ·intro x y h3 h4 h5;have:(q+1)*20≤k*20:=Nat.mul_le_mul_right _ c;omega
 intro f
 induction f with
 | zero =>
  intro q d hz hq hn hk;unfold insB;exact last q d hz hq (by omega) hk
 | succ f ih =>
  intro q d hz hq hn hk;unfold insB;split
  ·rename_i hc
   obtain⟨h1,h2⟩:=insertionSort_holds (lt:=lt) hS d (q*20) (q*20+20) (by omega) (by omega)
   have hz':(insertionSort lt d (q*20) (q*20+20)).size=n:=by rw[h1.1,hz]
   have:=ih (q+1) _ hz' (by omega) (by omega) (fun k hk2=>by
    rcases Nat.lt_or_eq_of_le (Nat.le_of_lt_succ hk2) with c | c
    ·refine (ssame (hk k c) fun t h3 h4=>h1.2.1 t (.inl ?_));have:(k+1)*20≤q*20:=Nat.mul_le_mul_right _ c;omega
    ·rw[c,show (q+1)*20=q*20+20 by omega]
     exact h2)
   rw[show (q+1)*20=q*20+20 by omega] at this;exact⟨permIn_trans _ _ _ _ _ (permIn_mono _ _ _ _ _ _ (Nat.zero_le _) (by omega) (by omega) h1) this.1,this.2⟩
  ·exact last q d hz hq (by omega) hk
end
section
variable {α:Type}[Inhabited α]{lt:α→α→Bool}
theorem mrgB_spec (hS:SWO lt)(n z:Nat)(hz:0<z):∀(f q:Nat) (d:Array α),d.size=n→n<(q+f)*(2*z)+2*z→(∀k,k<q→SortedIn lt (k*(2*z)) ((k+1)*(2*z)) d)→q*(2*z)≤n →
  (∀k,2*q≤k→SortedIn lt (k*z) (min ((k+1)*z) n) d)→PermIn 0 n d (mrgB lt n z f (q*(2*z)) d)∧BlkS lt (2*z) n (mrgB lt n z f (q*(2*z)) d):=by
 have tail:∀(q:Nat) (d:Array α),d.size=n→n<q*(2*z)+2*z→(∀k,k<q→SortedIn lt (k*(2*z)) ((k+1)*(2*z)) d)→q*(2*z)≤n →
   (∀k,2*q≤k→SortedIn lt (k*z) (min ((k+1)*z) n) d)→PermIn 0 n d (if q*(2*z)+z<n then symM lt n (q*(2*z)) (q*(2*z)+z) n d else d)∧BlkS lt (2*z) n (if q*(2*z)+z<n then symM lt n (q*(2*z)) (q*(2*z)+z) n d else d):=by
  intro q d hs hn hl hq hr
  have m1:2*q*z=q*(2*z):=by rw[Nat.mul_comm 2 q,Nat.mul_assoc]
  have m2:(2*q+1)*z=q*(2*z)+z:=by rw[Nat.succ_mul,m1]
  have m3:(2*q+1+1)*z=q*(2*z)+2*z:=by rw[Nat.succ_mul,m2];omega
  have r0:=hr (2*q) (Nat.le_refl _);have r1:=hr (2*q+1) (by omega);rw[m1,m2] at r0;rw[m2,m3] at r1
  have far:∀k,q<k→q*(2*z)+2*z≤k*(2*z):=fun k hk=>by
   have:=Nat.mul_le_mul_right (2*z) (show q+1≤k from hk)
   rwa [Nat.succ_mul] at this
  have near:∀k,k<q→(k+1)*(2*z)≤q*(2*z):=fun k hk=>Nat.mul_le_mul_right (2*z) hk;have ms:(q+1)*(2*z)=q*(2*z)+2*z:=Nat.succ_mul _ _
  generalize hA:q*(2*z)=A at *
  split
  ·rename_i hc
   have hp:=symM_perm (lt:=lt) n A (A+z) n d (by omega) hc (by omega);have hso:=symM_sorted hS n A (A+z) n d (by omega) (by omega) hc (by omega) (sless r0 (Nat.le_refl _) (by omega)) (sless r1 (Nat.le_refl _) (by omega));refine⟨permIn_mono _ _ _ _ _ _ (Nat.zero_le _) (Nat.le_refl _) (by omega) hp,fun k=>?_⟩;rcases Nat.lt_trichotomy k q with c | c | c
   ·exact (ssame (sless (hl k c) (Nat.le_refl _) (Nat.min_le_left _ _)) fun t h3 h4=>hp.2.1 t (.inl (by have:=near k c;omega)))
   ·intro x y h3 h4 h5;rw[c,hA] at h3;exact hso x y h3 h4 (by omega)
   ·intro x y h3 h4 h5;have:=far k c;omega
  ·rename_i hc
   refine⟨permIn_refl _ _ _,fun k=>?_⟩;rcases Nat.lt_trichotomy k q with c | c | c
   ·exact sless (hl k c) (Nat.le_refl _) (Nat.min_le_left _ _)
   ·intro x y h3 h4 h5;rw[c,hA] at h3;exact r0 x y h3 h4 (by omega)
   ·intro x y h3 h4 h5;have:=far k c;omega
 intro f
 induction f with
 | zero =>
  intro q d hs hn hl hq hr;unfold mrgB;exact tail q d hs (by simpa using hn) hl hq hr
 | succ f ih =>
  intro q d hs hn hl hq hr;unfold mrgB;split
  ·rename_i hc
   have m1:2*q*z=q*(2*z):=by rw[Nat.mul_comm 2 q,Nat.mul_assoc]
   have m2:(2*q+1)*z=q*(2*z)+z:=by rw[Nat.succ_mul,m1]
   have m3:(2*q+1+1)*z=q*(2*z)+2*z:=by rw[Nat.succ_mul,m2];omega
   have r0:=hr (2*q) (Nat.le_refl _);have r1:=hr (2*q+1) (by omega);rw[m1,m2] at r0;rw[m2,m3] at r1;have ms:(q+1)*(2*z)=q*(2*z)+2*z:=Nat.succ_mul _ _;have hp:=symM_perm (lt:=lt) n (q*(2*z)) (q*(2*z)+z) (q*(2*z)+2*z) d (by omega) (by omega) (by omega);have hso:=symM_sorted hS n (q*(2*z)) (q*(2*z)+z) (q*(2*z)+2*z) d (by omega) (by omega) (by omega) (by omega) (sless r0 (Nat.le_refl _) (by omega)) (sless r1 (Nat.le_refl _) (by omega))
   have hzz:(symM lt n (q*(2*z)) (q*(2*z)+z) (q*(2*z)+2*z) d).size=n:=by rw[hp.1,hs]
   have:=ih (q+1) _ hzz (by rw[show q+1+f=q+(f+1) by omega];exact hn) (fun k hk=>by
    rcases Nat.lt_or_eq_of_le (Nat.le_of_lt_succ hk) with c | c
    ·exact (ssame (hl k c) fun t h3 h4=>hp.2.1 t (.inl (by have:=Nat.mul_le_mul_right (2*z) (show k+1≤q from c);omega)))
    ·rw[c,ms];exact hso) (by omega) (fun k hk=>by
    have hk2:(2*q+1+1)*z≤k*z:=Nat.mul_le_mul_right z (by omega);rw[m3] at hk2
    exact (ssame (hr k (by omega)) fun t h3 h4=>hp.2.1 t (.inr (by omega))))
   rw[ms] at this;exact⟨permIn_trans _ _ _ _ _ (permIn_mono _ _ _ _ _ _ (Nat.zero_le _) (by omega) (by omega) hp) this.1,this.2⟩
  ·rename_i hc
   exact tail q d hs (by omega) hl hq hr
theorem stbG_spec (hS:SWO lt)(n:Nat):∀(f z:Nat) (d:Array α),0<z→d.size=n→n≤z+f→BlkS lt z n d→PermIn 0 n d (stbG lt n f z d)∧SortedIn lt 0 n (stbG lt n f z d)
 | 0,z,d,hz,hs,hn,hb=>by
  unfold stbG;refine⟨permIn_refl _ _ _,?_⟩;have:=hb 0;intro x y h1 h2 h3;exact this x y (by omega) h2 (by omega)
 | f+1,z,d,hz,hs,hn,hb=>by
  unfold stbG;split
  ·have h:=mrgB_spec (lt:=lt) hS n z hz n 0 d hs (by
    have:n*1≤n*(2*z):=Nat.mul_le_mul_left n (by omega);rw[Nat.zero_add]
    omega) (fun k hk=>by omega) (by omega) (fun k _=>hb k)
   rw[Nat.zero_mul] at h;have h2:=stbG_spec hS n f (z*2) (mrgB lt n z n 0 d) (by omega) (by rw[h.1.1,hs]) (by omega) (by rw[Nat.mul_comm];exact h.2);exact⟨permIn_trans _ _ _ _ _ h.1 h2.1,h2.2⟩
  ·refine⟨permIn_refl _ _ _,?_⟩;have:=hb 0;intro x y h1 h2 h3;exact this x y (by omega) h2 (by omega)
theorem stableA_spec (hS:SWO lt)(d:Array α):PermIn 0 d.size d (stableA lt d)∧SortedIn lt 0 d.size (stableA lt d):=by
 unfold stableA;have h:=insB_spec (lt:=lt) hS d.size d.size 0 d rfl (by omega) (by omega) (fun k hk=>by omega);rw[Nat.zero_mul] at h;have h2:=stbG_spec hS d.size d.size 20 (insB lt d.size d.size 0 d) (by omega) (by rw[h.1.1]) (by omega) h.2;exact⟨permIn_trans _ _ _ _ _ h.1 h2.1,h2.2⟩
def stableL (lt:α→α→Bool)(l:List α):List α:=(stableA lt l.toArray).toList
theorem stableL_perm (hS:SWO lt)(l:List α):(stableL lt l).Perm l:=by
 obtain⟨hsz,_,hperm⟩:=(stableA_spec hS l.toArray).1
 have e1:(stableA lt l.toArray).extract 0 l.toArray.size=stableA lt l.toArray:=by rw[←hsz];exact Array.extract_size
 rw[e1,Array.extract_size] at hperm;exact hperm
theorem stableL_sorted (hS:SWO lt)(l:List α):(stableL lt l).Pairwise fun x y=>lt y x=false:=by
 obtain⟨hP,hSo⟩:=stableA_spec hS l.toArray;unfold stableL;rw[List.pairwise_iff_getElem];intro i j hi hj hij
 have hi':i<(stableA lt l.toArray).size:=by simpa using hi
 have hj':j<(stableA lt l.toArray).size:=by simpa using hj
 have:=hSo i j (Nat.zero_le _) hij (by rw[←hP.1];exact hj');rw[getElem!_pos _ j hj',getElem!_pos _ i hi'] at this
 simpa using this
def compG (eq:α→α→Bool):α→List α→List α
 | _,[]=>[]
 | p,x::r=>if eq x p then compG eq x r else x::compG eq x r
def compL (eq:α→α→Bool):List α→List α
 | []=>[]
 | x::r=>x::compG eq x r
omit [Inhabited α] in
theorem compG_sub (eq:α→α→Bool):∀(r:List α) (p:α),(compG eq p r).Sublist r
 | [],_=>.slnil
 | x::r,p=>by
  unfold compG;split
  ·exact (compG_sub eq r x).trans (List.sublist_cons_self _ _)
  ·exact (compG_sub eq r x).cons_cons _
omit [Inhabited α] in
theorem compL_sub (eq:α→α→Bool)(l:List α):(compL eq l).Sublist l:=by
 cases l with
 | nil=>exact .slnil
 | cons x r=>exact (compG_sub eq r x).cons_cons _
omit [Inhabited α] in
theorem compG_strict (hS:SWO lt)(eq:α→α→Bool)(he:∀x p,eq x p=(!lt x p&&!lt p x)):∀(r:List α) (p:α),(p::r).Pairwise (fun x y=>lt y x=false)→(∀y∈compG eq p r,lt p y=true)∧(compG eq p r).Pairwise fun x y=>lt x y=true
 | [],p,_=>⟨fun y hy=>(by cases hy),.nil⟩
 | x::r,p,h=>by
  rw[List.pairwise_cons] at h;obtain⟨i1,i2⟩:=compG_strict hS eq he r x h.2;have hxp:=h.1 x (List.mem_cons_self ..);unfold compG;split
  ·rename_i hq
   rw[he] at hq;simp only[Bool.and_eq_true,Bool.not_eq_true'] at hq;refine⟨fun y hy=>?_,i2⟩;have h1:=i1 y hy
   cases hpy:lt p y with
   | true=>rfl
   | false =>
    have:=hS.ntrans x p y hq.1 hpy;rw[h1] at this;cases this
  ·rename_i hq
   rw[he] at hq
   have hpx:lt p x=true:=by
    cases hpx:lt p x with
    | true=>rfl
    | false=>rw[hxp,hpx] at hq;exact absurd rfl hq
   refine⟨fun y hy=>?_,List.pairwise_cons.2 ⟨i1,i2⟩⟩;rcases List.mem_cons.1 hy with rfl | hy
   ·exact hpx
   ·exact hS.trans _ _ _ hpx (i1 y hy)
omit [Inhabited α] in
theorem compL_strict (hS:SWO lt)(eq:α→α→Bool)(he:∀x p,eq x p=(!lt x p&&!lt p x))(l:List α)(h:l.Pairwise fun x y=>lt y x=false):(compL eq l).Pairwise fun x y=>lt x y=true:=by
 cases l with
 | nil=>exact .nil
 | cons x r =>
  obtain⟨h1,h2⟩:=compG_strict hS eq he r x h;exact List.pairwise_cons.2 ⟨h1,h2⟩
end
end Go.Proofs.YtlpojfgeocpkeaaGreatDoor
namespace Go.Proofs.YtlpojfgeocpkeaaGreatDoor
open Go.RowKit Go.Sort
set_option linter.unusedVariables false
set_option linter.unusedSimpArgs false
instance:Inhabited Ent:=⟨⟨[],[],0,false⟩⟩
structure SRow (w:World)(g cap:Nat)(d:Array Ent):Prop where
 le:d.size≤cap
 blk:∃cs:Array Value,Blk w g 46 cs∧cs.size=cap*4∧∀i,i<d.size→cs[i*4]? = some (.string (bs d[i]!.key))∧cs[i*4+1]? = some (.string (bs d[i]!.value))∧cs[i*4+2]? = some (.int .u64 (d[i]!.seq:Nat))∧cs[i*4+3]? = some (.bool d[i]!.gone)
section
variable {w w':World}{g cap:Nat}{d:Array Ent}
theorem SRow.lt (h:SRow w g cap d):g<w.heap.size:=by
 obtain⟨cs,hb,_⟩:=h.blk;exact hb.lt
theorem SRow.at_ (h:SRow w g cap d){i:Nat}(hi:i<d.size):w.cell? ⟨g,i*4,none⟩=some (.string (bs d[i]!.key))∧w.cell? ⟨g,i*4+1,none⟩=some (.string (bs d[i]!.value))∧w.cell? ⟨g,i*4+2,none⟩=some (.int .u64 (d[i]!.seq:Nat))∧w.cell? ⟨g,i*4+3,none⟩=some (.bool d[i]!.gone):=by
 obtain⟨cs,hb,_,hc⟩:=h.blk;obtain⟨h0,h1,h2,h3⟩:=hc i hi;exact⟨(hb.cell _).trans h0,(hb.cell _).trans h1,(hb.cell _).trans h2,(hb.cell _).trans h3⟩
theorem SRow.frz (h:SRow w g cap d)(i:Nat):w.frozen? ⟨g,i,none⟩=false:=by
 obtain⟨cs,hb,_⟩:=h.blk;exact hb.frozen i
theorem SRow.below {B:Nat}(h:SRow w g cap d)(hb:Below B w w')(hg:g<B):SRow w' g cap d:=by
 obtain⟨cs,h1,h2⟩:=h.blk;exact⟨h.le,cs,h1.below hb hg,h2⟩
def lay4 (w:World)(g i:Nat)(e:Ent):World:=(((w.setCell ⟨g,i*4,none⟩ (.string (bs e.key))).setCell ⟨g,i*4+1,none⟩ (.string (bs e.value))).setCell ⟨g,i*4+2,none⟩ (.int .u64 (e.seq:Nat))).setCell ⟨g,i*4+3,none⟩ (.bool e.gone)
theorem SRow.lay (h:SRow w g cap d)(i:Nat)(e:Ent):SRow (lay4 w g i e) g cap (d.setIfInBounds i e):=by
 obtain⟨cs,hb,hs,hc⟩:=h.blk;refine⟨by rw[Array.size_setIfInBounds];exact h.le,_,(((hb.set_ (i*4) _).set_ (i*4+1) _).set_ (i*4+2) _).set_ (i*4+3) _,by simp[hs],fun k hk=>?_⟩;rw[Array.size_setIfInBounds] at hk;obtain⟨h0,h1,h2,h3⟩:=hc k hk;have hcap:=h.le
 have g0:(d.setIfInBounds i e)[k]! = if k=i then e else d[k]! := by
  simp only[getElem!_def,Array.getElem?_setIfInBounds]
  by_cases hki:k=i
  ·subst hki;simp[hk]
  ·simp[Ne.symm hki,hki]
 rw[g0];simp only[Array.getElem?_setIfInBounds,Array.size_setIfInBounds]
 by_cases hki:k=i
 ·subst hki
  have e1:k*4+3<cs.size:=by omega
  refine⟨?_,?_,?_,?_⟩
  ·rw[if_neg (by omega),if_neg (by omega),if_neg (by omega),if_pos rfl,if_pos (by omega),if_pos rfl]
  ·rw[if_neg (by omega),if_neg (by omega),if_pos rfl,if_pos (by omega),if_pos rfl]
  ·rw[if_neg (by omega),if_pos rfl,if_pos (by omega),if_pos rfl]
  ·rw[if_pos rfl,if_pos (by omega),if_pos rfl]
 ·rw[if_neg hki];refine⟨?_,?_,?_,?_⟩
  ·rw[if_neg (by omega),if_neg (by omega),if_neg (by omega),if_neg (by omega)];exact h0
  ·rw[if_neg (by omega),if_neg (by omega),if_neg (by omega),if_neg (by omega)];exact h1
  ·rw[if_neg (by omega),if_neg (by omega),if_neg (by omega),if_neg (by omega)];exact h2
  ·rw[if_neg (by omega),if_neg (by omega),if_neg (by omega),if_neg (by omega)];exact h3
theorem KeptBut.lay4 {S:Nat→Prop}(h:KeptBut w w' S){i:Nat}{e:Ent}(hg:S g):KeptBut w (Go.Proofs.YtlpojfgeocpkeaaGreatDoor.lay4 w' g i e) S:=(((h.then_set hg).then_set hg).then_set hg).then_set hg
end
end Go.Proofs.YtlpojfgeocpkeaaGreatDoor
