/- Package block, plain: what a builder has, what its bytes are, how they are read. No program in sight. Package okey, plain: a text's key, and what keys' bytes are read as. The plain layer of slices.SortStableFunc: rotations, symMerge, and what they leave. No program in sight. -/
import Derived.Test.YtlpojfgeocpkeaaGreatDoorX08
import GoSem.Op.String
import Derived.Lib.Replace
import Derived.Lib.IndexBytes
import Derived.Sort.LotA
namespace Go.Proofs.YtlpojfgeocpkeaaGreatDoor
set_option linter.unusedVariables false
set_option linter.unusedSimpArgs false
abbrev L:=List UInt8
theorem snocRec {α:Type}{motive:List α→Prop}(nil:motive [])(snoc:∀l a,motive l→motive (l++[a]))(l:List α):motive l:=by
 rw[←List.reverse_reverse l];generalize l.reverse=r
 induction r with
 | nil=>exact nil
 | cons a r ih=>rw[List.reverse_cons];exact snoc _ _ ih
def lessL (a b:L):Bool:=Op.bytesLess a b
theorem less_irrefl:∀a:L,lessL a a=false
 | []=>rfl
 | c::a=>by
  have ih:=less_irrefl a;unfold lessL at ih ⊢;simp[Op.bytesLess,ih]
theorem u8_lt_tri (a b:UInt8):a<b∨a=b∨b<a:=by
 rcases Nat.lt_trichotomy a.toNat b.toNat with h | h | h
 ·exact .inl (UInt8.lt_iff_toNat_lt.2 h)
 ·exact .inr (.inl (UInt8.toNat_inj.1 h))
 ·exact .inr (.inr (UInt8.lt_iff_toNat_lt.2 h))
theorem u8_not_lt {a b:UInt8}(h:a<b):¬b<a∧a≠b:=by
 rw[UInt8.lt_iff_toNat_lt] at h;refine⟨fun h'=>?_,fun h'=>?_⟩
 ·rw[UInt8.lt_iff_toNat_lt] at h';omega
 ·subst h';omega
theorem less_tri:∀a b:L,(lessL a b||a==b)=!lessL b a
 | [],[]=>rfl
 | [],_::_=>rfl
 | _::_,[]=>by simp[lessL,Op.bytesLess]
 | a::x,b::y=>by
  have ih:=less_tri x y;unfold lessL at ih ⊢;simp only[Op.bytesLess,List.cons_beq_cons];rcases u8_lt_tri a b with h | h | h
  ·obtain⟨h1,h2⟩:=u8_not_lt h;simp[h,h1,Ne.symm h2,h2]
  ·subst h;simp[ih]
  ·obtain⟨h1,h2⟩:=u8_not_lt h;simp[h,h1,h2,Ne.symm h2]
theorem less_trans:∀ {a b c:L},lessL a b=true→lessL b c=true→lessL a c=true
 | _,[],_,h,_=>by cases ‹L›<;>simp[lessL,Op.bytesLess] at h
 | _,_::_,[],_,h=>by simp[lessL,Op.bytesLess] at h
 | [],_::_,_::_,_,_=>rfl
 | a::x,b::y,c::z,h1,h2=>by
  have ih:=@less_trans x y z;unfold lessL at ih h1 h2 ⊢;simp only[Op.bytesLess,Bool.or_eq_true,Bool.and_eq_true,decide_eq_true_eq,beq_iff_eq] at h1 h2 ⊢;rcases h1 with h1 | ⟨rfl,h1⟩
  ·rcases h2 with h2 | ⟨rfl,h2⟩
   ·refine .inl ?_
    rw[UInt8.lt_iff_toNat_lt] at *
    omega
   ·exact .inl h1
  ·rcases h2 with h2 | ⟨rfl,h2⟩
   ·exact .inl h2
   ·exact .inr ⟨rfl,ih h1 h2⟩
theorem less_asymm {a b:L}(h:lessL a b=true):lessL b a=false:=by
 rcases hb:lessL b a with _ | _
 ·rfl
 ·have:=less_trans h hb;rw[less_irrefl] at this;cases this
def sharedL:L→L→Nat
 | a::az,b::bs=>if a=b then sharedL az bs+1 else 0
 | [],_=>0
 | _::_,[]=>0
theorem sharedL_le:∀a b:L,sharedL a b≤a.length∧sharedL a b≤b.length
 | [],b=>by simp[sharedL]
 | _::_,[]=>by simp[sharedL]
 | a::az,b::bs=>by
  have ih:=sharedL_le az bs;unfold sharedL;split
  ·simp;omega
  ·simp
theorem sharedL_take:∀a b:L,a.take (sharedL a b)=b.take (sharedL a b)
 | [],b=>by simp[sharedL]
 | _::_,[]=>by simp[sharedL]
 | a::az,b::bs=>by
  have ih:=sharedL_take az bs;unfold sharedL;split
  ·rename_i h
   subst h;simp[ih]
  ·simp
theorem readVar_z {l:L}{n k:Nat}(h:readVar l=some (n,k)):k≤l.length:=by
 cases l with
 | nil=>simp[readVar] at h
 | cons c r =>
  simp only[readVar] at h
  split at h
  ·simp at h;obtain⟨rfl,rfl⟩:=h;simp
  ·split at h
   ·cases h
   ·rename_i m hm
    split at h
    ·simp at h;obtain⟨rfl,rfl⟩:=h;unfold readBig at hm
     split at hm
     ·cases hm
     ·rename_i hk;simp;omega
    ·cases h
theorem readText_z {l t:L}{m:Int}{z:Nat}(h:readText l m=some (t,z)):z≤l.length:=by
 unfold readText at h
 split at h
 ·cases h
 ·rename_i n k hv
  have:=readVar_z hv
  split at h
  ·cases h
  ·injection h with h;injection h with h1 h2;omega
theorem readText_t {l t:L}{m:Int}{z:Nat}(h:readText l m=some (t,z)):t.length≤l.length:=by
 unfold readText at h
 split at h
 ·cases h
 ·split at h
  ·cases h
  ·injection h with h;injection h with h1 h2;subst h1;simp;omega
structure BB where
 b:L
 starts:List Nat
 count:Nat
 last:L
def BB.new:BB:=⟨[],[],0,[]⟩
def BB.err (s:BB)(k v:L):Nat:=if 1024<k.length∨1024<v.length then 3 else if 0<s.count∧lessL s.last k=false then 1 else 0
def BB.lead (s:BB)(k:L):Nat:=if s.count % 4=0 then 0 else sharedL s.last k
def BB.enc (s:BB)(k v:L):L:=varL1 (s.lead k)++(textL [k.drop (s.lead k),v])
def BB.put (s:BB)(k v:L):BB:=⟨s.b++s.enc k v,if s.count % 4=0 then s.starts++[s.b.length] else s.starts,s.count+1,k⟩
def BB.add (s:BB)(k v:L):BB:=if s.err k v=0 then s.put k v else s
def BB.size (s:BB):Nat:=s.b.length+4*(s.starts.length+1)
def fours (l:List Nat):L:=l.flatMap fun n=>bigL n 4
def BB.out (s:BB):L:=s.b++fours (s.starts++[s.count])
theorem fours_len (l:List Nat):(fours l).length=4*l.length:=by
 induction l with
 | nil=>rfl
 | cons n l ih =>
  have:fours (n::l)=bigL n 4++fours l:=rfl;rw[this,List.length_append,bigL_len,ih,List.length_cons];omega
theorem BB.out_len (s:BB):s.out.length=s.size:=by
 unfold BB.out BB.size;rw[List.length_append,fours_len];simp
theorem BB.lead_le (s:BB)(k:L):s.lead k≤k.length:=by
 unfold BB.lead;split
 ·omega
 ·exact (sharedL_le _ _).2
theorem BB.enc_len (s:BB)(k v:L):(s.enc k v).length≤k.length+v.length+27:=by
 unfold BB.enc;have h1:=varL1_len (s.lead k);have h2:=varL1_len (k.drop (s.lead k)).length;have h3:=varL1_len v.length;simp only[textL,List.length_append,List.append_nil,List.length_drop] at h2 ⊢;omega
def nextP (s:L)(at_:Nat)(ahead:L):Option (L × L × Nat) :=
 match readVar (s.drop at_) with
 | none=>none
 | some (n,z)=>if ahead.length<n then none else
  match readText (s.drop (at_+z)) 1024 with
  | none=>none
  | some (rest,z1) =>
   match readText (s.drop (at_+z+z1)) 1024 with
   | none=>none
   | some (v,z2)=>some (ahead.take n++rest,v,at_+z+z1+z2)
def rdB (s:L):Nat→Option (L × Nat × BB × List (L × L))
 | 0=>some ([],0,BB.new,[])
 | i+1=>match rdB s i with
  | none=>none
  | some (key,p,bb,es)=>match nextP s p key with
   | none=>none
   | some (k,v,q)=>if bb.err k v=0 then some (k,q,bb.put k v,es++[(k,v)]) else none
def openB (s:L):Option (List (L × L)) :=
 match readBig (s.drop (s.length-4)) 4 with
 | none=>none
 | some c=>if s.length / 4-1<(c+3) / 4 then none else
  match rdB (s.take (s.length-4*((c+3) / 4+1))) c with
  | none=>none
  | some (_,_,bb,es)=>if bb.out=s then some es else none
def foldB (es:List (L × L)):BB:=es.foldl (fun s e=>s.put e.1 e.2) BB.new
theorem foldB_snoc (es:List (L × L))(e:L × L):foldB (es++[e])=(foldB es).put e.1 e.2:=by simp[foldB]
def ValidB (es:List (L × L)):Prop:=∀i k v,es[i]? = some (k,v)→(foldB (es.take i)).err k v=0
theorem ValidB.snoc {es:List (L × L)}{k v:L}(h:ValidB es)(he:(foldB es).err k v=0):ValidB (es++[(k,v)]):=by
 intro i k' v' hi;rcases Nat.lt_trichotomy i es.length with hl | hl | hl
 ·rw[List.getElem?_append_left hl] at hi;rw[List.take_append_of_le_length (by omega)];exact h i k' v' hi
 ·subst hl;simp at hi;obtain⟨rfl,rfl⟩:=hi;simp;exact he
 ·rw[List.getElem?_eq_none (by simp;omega)] at hi;cases hi
theorem ValidB.nil:ValidB []:=fun i k v h=>by simp at h
theorem foldB_count (es:List (L × L)):(foldB es).count=es.length:=by
 induction es using snocRec with
 | nil=>rfl
 | snoc es e ih=>rw[foldB_snoc];simp[BB.put,ih]
theorem rdB_spec (s:L):∀(n:Nat) k p bb es,rdB s n=some (k,p,bb,es)→bb=foldB es∧ValidB es∧es.length=n:=by
 intro n
 induction n with
 | zero =>
  intro k p bb es h;simp[rdB] at h;obtain⟨_,_,rfl,rfl⟩:=h;exact⟨rfl,ValidB.nil,rfl⟩
 | succ n ih =>
  intro k p bb es h;unfold rdB at h
  split at h
  ·cases h
  ·rename_i k0 p0 bb0 es0 h0
   obtain⟨h1,h2,h3⟩:=ih _ _ _ _ h0
   split at h
   ·cases h
   ·split at h
    ·rename_i he
     injection h with h;injection h with ha hb;injection hb with hb hc;injection hc with hc hd;subst ha hb hc hd h1;exact⟨by rw[foldB_snoc],h2.snoc he,by simp[h3]⟩
    ·cases h
theorem openB_some {s:L}{es:List (L × L)}(h:openB s=some es):ValidB es∧(foldB es).out=s:=by
 unfold openB at h
 split at h
 ·cases h
 ·split at h
  ·cases h
  ·split at h
   ·cases h
   ·rename_i h0
    obtain⟨h1,h2,h3⟩:=rdB_spec _ _ _ _ _ _ h0
    split at h
    ·rename_i hs
     injection h with h;subst h h1;exact⟨h2,hs⟩
    ·cases h
def posB (es:List (L × L))(i:Nat):Nat:=(foldB (es.take i)).b.length
theorem take_snoc {es:List (L × L)}{i:Nat}{e:L × L}(h:es[i]? = some e):es.take (i+1)=es.take i++[e]:=by
 rw[List.take_add_one,h];rfl
theorem foldB_take_succ {es:List (L × L)}{i:Nat}{e:L × L}(h:es[i]? = some e):foldB (es.take (i+1))=(foldB (es.take i)).put e.1 e.2:=by
 rw[take_snoc h,foldB_snoc]
theorem foldB_pre (es:List (L × L))(i:Nat):∃r,(foldB es).b=(foldB (es.take i)).b++r:=by
 induction es using snocRec with
 | nil=>exact⟨[],by simp[foldB]⟩
 | snoc es e ih =>
  rcases Nat.lt_or_ge es.length i with h | h
  ·exact⟨[],by rw[List.take_of_length_le (by simp;omega)];simp⟩
  ·obtain⟨r,hr⟩:=ih;rw[List.take_append_of_le_length h,foldB_snoc];exact⟨r++(foldB es).enc e.1 e.2,by simp[BB.put,hr]⟩
theorem posB_len (es:List (L × L))(i:Nat):posB es i≤(foldB es).b.length:=by
 obtain⟨r,hr⟩:=foldB_pre es i;rw[hr,List.length_append];exact Nat.le_add_right _ _
theorem foldB_last {es:List (L × L)}{i:Nat}{e:L × L}(h:es[i]? = some e):(foldB (es.take (i+1))).last=e.1:=by
 rw[foldB_take_succ h];rfl
theorem err_len {s:BB}{k v:L}(h:s.err k v=0):k.length≤1024∧v.length≤1024:=by
 unfold BB.err at h
 split at h
 ·cases h
 ·omega
theorem next_enc (s:BB)(k v pre r ahead:L)(he:s.err k v=0)(ha:s.count % 4≠0→ahead=s.last):nextP (pre++s.enc k v++r) pre.length ahead=some (k,v,pre.length+(s.enc k v).length):=by
 obtain⟨hk,hv⟩:=err_len he;have hll:=s.lead_le k
 have hn:s.lead k<18446744073709551616:=by omega
 have e1:(pre++s.enc k v++r).drop pre.length=varL1 (s.lead k)++(varL1 (k.drop (s.lead k)).length++k.drop (s.lead k)++(varL1 v.length++v++r)):=by
  rw[List.append_assoc,List.drop_left];simp[BB.enc,textL]
 have hal:s.lead k≤ahead.length:=by
  unfold BB.lead;split
  ·omega
  ·rename_i hc
   rw[ha hc];exact (sharedL_le _ _).1
 unfold nextP;rw[e1,readVar_var _ hn];simp only[];rw[if_neg (by omega),←List.drop_drop,e1,List.drop_left,show (1024:Int)=((1024:Nat):Int) from rfl,readText_row _ _ 1024 (by simp;omega) (by decide)];simp only[];rw[←List.drop_drop,←List.drop_drop,←List.drop_drop,e1,List.drop_left,List.append_assoc,List.drop_left,List.drop_left,readText_row _ _ 1024 hv (by decide)];simp only[]
 have ht:ahead.take (s.lead k)++k.drop (s.lead k)=k:=by
  have:ahead.take (s.lead k)=k.take (s.lead k):=by
   unfold BB.lead;split
   ·simp
   ·rename_i hc
    rw[ha hc];exact sharedL_take _ _
  rw[this,List.take_append_drop]
 rw[ht];simp[BB.enc,textL];omega
theorem next_at {es:List (L × L)}(hv:ValidB es){i:Nat}{k v:L}(h:es[i]? = some (k,v))(ahead:L)(ha:i % 4≠0→∃e,es[i-1]? = some e∧ahead=e.1) :
  nextP (foldB es).b (posB es i) ahead=some (k,v,posB es (i+1)):=by
 obtain⟨r,hr⟩:=foldB_pre es (i+1);rw[hr,foldB_take_succ h];have he:=hv i k v h
 have hp1:posB es (i+1)=posB es i+((foldB (es.take i)).enc k v).length:=by
  unfold posB;rw[foldB_take_succ h];simp[BB.put]
 rw[hp1];refine next_enc _ k v _ r ahead he ?_;rw[foldB_count,List.length_take]
 have hi:i<es.length:=by
  rcases Nat.lt_or_ge i es.length with h' | h'
  ·exact h'
  ·rw[List.getElem?_eq_none h'] at h;cases h
 rw[Nat.min_eq_left (by omega)];intro hc;obtain⟨e,h1,h2⟩:=ha hc
 have h0:0<i:=by
  rcases Nat.eq_zero_or_pos i with h0 | h0
  ·subst h0;simp at hc
  ·exact h0
 have:=foldB_last h1;rw[show i-1+1=i from by omega] at this;rw[h2,this]
theorem rdB_fold {es:List (L × L)}(hv:ValidB es):∀n,n≤es.length→∃k,(∀e,es[n-1]? = some e→0<n→k=e.1)∧rdB (foldB es).b n=some (k,posB es n,foldB (es.take n),es.take n):=by
 intro n
 induction n with
 | zero =>
  intro _;exact⟨[],fun e h h0=>absurd h0 (by omega),by simp[rdB,posB,foldB,BB.new]⟩
 | succ n ih =>
  intro hn;obtain⟨k0,hk0,h0⟩:=ih (by omega)
  have hlt:n<es.length:=by omega
  obtain⟨k,v,he⟩:∃k v,es[n]? = some (k,v):=⟨es[n].1,es[n].2,List.getElem?_eq_getElem hlt⟩;refine⟨k,fun e h _=>?_,?_⟩
  ·rw[show n+1-1=n from rfl,he] at h;injection h with h;rw[←h]
  ·have hnx:=next_at hv he k0 (fun hm=>by
    have hp:0<n:=by
     rcases Nat.eq_zero_or_pos n with h | h
     ·subst h;simp at hm
     ·exact h
    have hl:n-1<es.length:=by omega
    exact⟨es[n-1],List.getElem?_eq_getElem hl,hk0 _ (List.getElem?_eq_getElem hl) hp⟩)
   unfold rdB;rw[h0];simp only[];rw[hnx];simp only[];rw[if_pos (hv n k v he),foldB_take_succ he,take_snoc he]
theorem foldB_starts (es:List (L × L)):(foldB es).starts.length=(es.length+3) / 4:=by
 induction es using snocRec with
 | nil=>rfl
 | snoc es e ih =>
  rw[foldB_snoc];unfold BB.put;rw[foldB_count];simp only[List.length_append,List.length_cons,List.length_nil];split
  ·rw[List.length_append,ih];simp;omega
  ·rw[ih];omega
theorem openB_out {es:List (L × L)}(hv:ValidB es)(hl:es.length<4294967296):openB (foldB es).out=some es:=by
 have hlen:=BB.out_len (foldB es);have hst:=foldB_starts es;unfold BB.size at hlen
 have hout:(foldB es).out=((foldB es).b++fours (foldB es).starts)++(bigL es.length 4++[]):=by
  unfold BB.out fours;rw[List.flatMap_append];simp[foldB_count]
 have hdr:(foldB es).out.drop ((foldB es).out.length-4)=bigL es.length 4++[]:=by
  rw[hlen,hout]
  have:(foldB es).b.length+4*((foldB es).starts.length+1)-4=((foldB es).b++fours (foldB es).starts).length:=by rw[List.length_append,fours_len];omega
  rw[this,List.drop_left]
 unfold openB;rw[hdr,show (4:Int)=((4:Nat):Int) from rfl,readBig_big es.length 4 [] (by decide) (by decide) (by simpa using hl)];simp only[];rw[if_neg (by rw[hlen,hst];omega)]
 have htk:(foldB es).out.take ((foldB es).out.length-4*((es.length+3) / 4+1))=(foldB es).b:=by
  rw[hlen,hst];unfold BB.out;rw[show (foldB es).b.length+4*((es.length+3) / 4+1)-4*((es.length+3) / 4+1)=(foldB es).b.length from by omega,List.take_left]
 rw[htk];obtain⟨k,_,h0⟩:=rdB_fold hv es.length (Nat.le_refl _);rw[h0];simp
def atR (s:L)(i:Nat):Nat:=((rdB s i).map (·.2.1)).getD 0
def stR (s:L):Nat→List Nat
 | 0=>[]
 | i+1=>if i % 4=0 then stR s i++[atR s i] else stR s i
theorem stR_fold {es:List (L × L)}(hv:ValidB es):∀n,n≤es.length→stR (foldB es).b n=(foldB (es.take n)).starts:=by
 intro n
 induction n with
 | zero=>intro _;rfl
 | succ n ih =>
  intro hn;have ih:=ih (by omega);obtain⟨k,_,h0⟩:=rdB_fold hv n (by omega)
  have hlt:n<es.length:=by omega
  have he:es[n]? = some es[n]:=List.getElem?_eq_getElem hlt;rw[foldB_take_succ he];unfold stR BB.put;rw[foldB_count,List.length_take,Nat.min_eq_left (by omega),ih];unfold atR;rw[h0];rfl
theorem starts_at {es:List (L × L)}:∀j,4*j<es.length→(foldB es).starts[j]? = some (posB es (4*j)):=by
 induction es using snocRec with
 | nil=>intro j h;simp at h
 | snoc es e ih =>
  intro j h;simp at h;rw[foldB_snoc];have hs:=foldB_starts es
  have hps:4*j≤es.length→posB (es++[e]) (4*j)=posB es (4*j):=fun hl=>by
   unfold posB;rw[List.take_append_of_le_length hl]
  unfold BB.put;rw[foldB_count];simp only[]
  by_cases hj:4*j<es.length
  ·rw[hps (by omega)];split
   ·rw[List.getElem?_append_left (by omega)];exact ih j hj
   ·exact ih j hj
  ·have he:es.length=4*j:=by omega
   rw[if_pos (by omega),hps (by omega),List.getElem?_append_right (by omega),hs,show j-(es.length+3) / 4=0 from by omega];unfold posB;rw[List.take_of_length_le (by omega)];rfl
theorem rdB_le (s:L):∀n k p bb es,rdB s n=some (k,p,bb,es)→p≤s.length∧(k.length≤1024)∧bb.b.length≤2075*n∧bb.starts.length≤n∧bb.last.length≤1024∧(∀m∈bb.starts,m≤2075*n):=by
 intro n
 induction n with
 | zero =>
  intro k p bb es h;simp[rdB] at h;obtain⟨rfl,rfl,rfl,rfl⟩:=h;simp[BB.new]
 | succ n ih =>
  intro k p bb es h;unfold rdB at h
  split at h
  ·cases h
  ·rename_i k0 p0 bb0 es0 h0
   obtain⟨i1,i2,i3,i4,i5,i6⟩:=ih _ _ _ _ h0
   split at h
   ·cases h
   ·rename_i k1 v1 q1 hn
    split at h
    ·rename_i he
     injection h with h;injection h with ha hb;injection hb with hb hc;injection hc with hc hd;subst ha hb hc hd;obtain⟨hk,hv⟩:=err_len he;have hel:=bb0.enc_len k1 v1;refine⟨?_,hk,?_,?_,hk,?_⟩
     ·unfold nextP at hn
      split at hn
      ·cases hn
      ·rename_i n1 z hz
       split at hn
       ·cases hn
       ·split at hn
        ·cases hn
        ·rename_i rest z1 hz1
         split at hn
         ·cases hn
         ·rename_i v2 z2 hz2
          injection hn with hn;injection hn with e1 e2;injection e2 with e2 e3;have:=readText_z hz2;have:=readText_z hz1;have:=readVar_z hz
          simp only[List.length_drop] at *
          omega
     ·simp[BB.put];omega
     ·simp only[BB.put];split
      ·simp;omega
      ·omega
     ·simp only[BB.put];intro m hm
      split at hm
      ·rcases List.mem_append.1 hm with hm | hm
       ·have:=i6 m hm;omega
       ·simp at hm;omega
      ·have:=i6 m hm;omega
    ·cases h
theorem stR_len (s:L):∀n,(stR s n).length≤n:=by
 intro n
 induction n with
 | zero=>exact Nat.le_refl _
 | succ n ih =>
  unfold stR;split
  ·simp;exact ih
  ·omega
theorem rdB_succ {s:L}{i:Nat}{k:L}{p:Nat}{bb:BB}{es:List (L × L)}(h:rdB s i=some (k,p,bb,es)):rdB s (i+1)=match nextP s p k with
  | none=>none
  | some (k,v,q)=>if bb.err k v=0 then some (k,q,bb.put k v,es++[(k,v)]) else none:=by
 rw[rdB,h]
theorem rdB_stop (s:L)(c:Nat):∀i,i≤c→rdB s i=none→rdB s c=none:=by
 induction c with
 | zero =>
  intro i hi h
  obtain rfl:i=0:=by omega
  exact h
 | succ c ih =>
  intro i hi h
  by_cases he:i=c+1
  ·rw[←he];exact h
  ·rw[rdB,ih i (by omega) h]
theorem nextP_len {s:L}{p:Nat}{ahead k v:L}{q:Nat}(h:nextP s p ahead=some (k,v,q)):k.length≤ahead.length+s.length∧v.length≤s.length:=by
 unfold nextP at h
 split at h
 ·cases h
 ·rename_i n1 z hz
  split at h
  ·cases h
  ·split at h
   ·cases h
   ·rename_i rest z1 hz1
    split at h
    ·cases h
    ·rename_i v2 z2 hz2
     injection h with h;injection h with e1 e2;injection e2 with e2 e3;have h1:=readText_z hz1;have h2:=readText_z hz2;have h3:=readText_t hz1;have h4:=readText_t hz2;simp only[List.length_drop] at h3 h4;subst e1 e2;simp only[List.length_append,List.length_take];omega
def belowP (es:List (L × L))(key:L)(i:Nat):Bool:=match es[i]? with
 | some e=>lessL e.1 key
 | none=>false
def seekP (es:List (L × L))(key:L):Nat:=(es.takeWhile fun e=>lessL e.1 key).length
theorem seekP_eq (key:L):∀(es:List (L × L)) (i:Nat),(∀j,j<i→belowP es key j=true)→belowP es key i=false→seekP es key=i
 | [],i,h,h'=>by
  rcases Nat.eq_zero_or_pos i with h0 | h0
  ·subst h0;rfl
  ·have:=h 0 h0;simp[belowP] at this
 | e::es,0,h,h'=>by
  simp only[belowP,List.getElem?_cons_zero] at h';simp[seekP,List.takeWhile_cons,h']
 | e::es,i+1,h,h'=>by
  have h0:=h 0 (by omega);simp only[belowP,List.getElem?_cons_zero] at h0
  have ih:=seekP_eq key es i (fun j hj=>by
   have:=h (j+1) (by omega)
   simpa[belowP] using this) (by simpa[belowP] using h')
  unfold seekP at ih ⊢;rw[List.takeWhile_cons,h0];simp[ih]
theorem valid_step {es:List (L × L)}(hv:ValidB es){i:Nat}{a b:L × L}(ha:es[i]? = some a)(hb:es[i+1]? = some b):lessL a.1 b.1=true:=by
 have he:=hv (i+1) b.1 b.2 hb;unfold BB.err at he
 split at he
 ·cases he
 ·rw[foldB_last ha,foldB_count] at he
  split at he
  ·cases he
  ·rename_i hh
   rcases hq:lessL a.1 b.1 with _ | _
   ·refine absurd ⟨?_,hq⟩ hh;rw[List.length_take];have:i+1<es.length:=(List.getElem?_eq_some_iff.1 hb).1;omega
   ·rfl
theorem valid_lt {es:List (L × L)}(hv:ValidB es):∀(d i:Nat) {a b:L × L},es[i]? = some a→es[i+d+1]? = some b→lessL a.1 b.1=true
 | 0,i,a,b,ha,hb=>valid_step hv ha hb
 | d+1,i,a,b,ha,hb=>by
  have hl:i+d+1<es.length:=by
   have:i+(d+1)+1<es.length:=(List.getElem?_eq_some_iff.1 hb).1;omega
  have hc:es[i+d+1]? = some es[i+d+1]:=List.getElem?_eq_getElem hl;exact less_trans (valid_lt hv d i ha hc) (valid_step hv hc hb)
theorem below_mono {es:List (L × L)}(hv:ValidB es){key:L}{i j:Nat}(hij:i≤j)(h:belowP es key j=true):belowP es key i=true:=by
 unfold belowP at h ⊢;rcases hj:es[j]? with _ | b
 ·rw[hj] at h;cases h
 ·rw[hj] at h;have hl:j<es.length:=(List.getElem?_eq_some_iff.1 hj).1;have hi:es[i]? = some es[i]:=List.getElem?_eq_getElem (by omega);rw[hi];rcases Nat.lt_or_ge i j with hlt | hge
  ·have:=valid_lt hv (j-i-1) i hi (by rw[show i+(j-i-1)+1=j from by omega];exact hj);exact less_trans this h
  ·obtain rfl:i=j:=by omega
   rw[hi] at hj;injection hj with hj;simp only[hj];exact h
theorem seekP_le (es:List (L × L))(key:L):seekP es key≤es.length:=by
 unfold seekP;exact (List.takeWhile_sublist _).length_le
def escL:L→L
 | []=>[]
 | c::r=>if c=0 then 0::255::escL r else c::escL r
def strKey (k:L):L:=2::(escL k++[0,1])
theorem escL_len:∀k:L,(escL k).length≤2*k.length∧k.length≤(escL k).length
 | []=>by simp[escL]
 | c::r=>by
  have:=escL_len r;unfold escL
  split<;>simp<;>omega
theorem zero_ne:([0]:List UInt8)≠[]:=by simp
theorem esc_repl:∀s:L,Lib.replaceK [0] [0,255] (Lib.count s [0]) s=escL s∧Lib.count s [0]≤s.length
 | []=>by
  have:Lib.count [] [0]=0:=Lib.count_miss rfl;rw[this];exact⟨rfl,Nat.zero_le _⟩
 | c::t=>by
  obtain⟨ih1,ih2⟩:=esc_repl t
  by_cases hc:c=0
  ·subst hc
   have hi:Lib.index (0::t) [0]=((0:Nat):Int):=by simp[Lib.index]
   have hn:=Lib.count_hit zero_ne hi
   have hd:(0::t).drop (0+([0]:L).length)=t:=by simp
   rw[hd] at hn;rw[hn,Nat.add_comm 1,Lib.replaceK_hit _ _ _ _ 0 hi,hd,ih1];refine⟨by simp[escL],by simp;omega⟩
  ·have hp:([0]:L).isPrefixOf (c::t)=false:=by
    simp[List.isPrefixOf];exact fun e=>hc e.symm
   by_cases hm:Lib.index t [0]=-1
   ·have hi:Lib.index (c::t) [0]=-1:=by
     unfold Lib.index;rw[hp,if_neg (by decide),hm];rfl
    rw[Lib.count_miss hi];rw[Lib.count_miss hm] at ih1;refine⟨?_,Nat.zero_le _⟩
    have:escL (c::t)=c::escL t:=by rw[escL,if_neg hc]
    rw[this,←ih1];rfl
   ·obtain⟨i,hi⟩:∃i:Nat,Lib.index t [0]=i:=by
     have:=Lib.index_ge t [0];exact⟨(Lib.index t [0]).toNat,by omega⟩
    have hi2:Lib.index (c::t) [0]=((i+1:Nat):Int):=by
     unfold Lib.index;rw[hp,if_neg (by decide),if_neg (by simpa using hm),hi];omega
    have hn:=Lib.count_hit zero_ne hi;have hn2:=Lib.count_hit zero_ne hi2
    have hd:(c::t).drop (i+1+([0]:L).length)=t.drop (i+([0]:L).length):=by simp
    rw[hd] at hn2;rw[hn2,Nat.add_comm 1,Lib.replaceK_hit _ _ _ _ (i+1) hi2,hd];rw[hn,Nat.add_comm 1,Lib.replaceK_hit _ _ _ _ i hi] at ih1
    have:escL (c::t)=c::escL t:=by rw[escL,if_neg hc]
    rw[this,←ih1];refine⟨by simp,?_⟩;rw[hn] at ih2;show _≤t.length+1;omega
theorem repl_esc (s:L):Lib.replaceAll s [0] [0,255]=escL s:=by
 unfold Lib.replaceAll Lib.replace;rw[if_neg (by decide)];unfold Lib.replaceNum;rw[if_pos (.inl (by decide))];exact (esc_repl s).1
def rtK:L→L→Option (L × L)
 | [],_=>none
 | [_],_=>none
 | a::b::r,acc=>if a=0 then (if b=1 then some (acc,r) else if b=255 then rtK r (acc++[0]) else none) else rtK (b::r) (acc++[a])
theorem rtK_skip:∀(p r acc:L),(∀c∈p,c≠0)→rtK (p++0::r) acc=rtK (0::r) (acc++p)
 | [],r,acc,_=>by simp
 | [a],r,acc,h=>by
  have:=h a (by simp);show rtK (a::0::r) acc=_;rw[rtK,if_neg this]
 | a::b::p,r,acc,h=>by
  have h1:=h a (by simp);have ih:=rtK_skip (b::p) r (acc++[a]) (fun c hc=>h c (by simp at hc ⊢;right;exact hc));show rtK (a::b::(p++0::r)) acc=_;rw[rtK,if_neg h1];rw[show b::(p++0::r)=b::p++0::r from rfl,ih];simp
theorem rtK_none:∀(p acc:L),(∀c∈p,c≠0)→rtK p acc=none
 | [],_,_=>rfl
 | [_],_,_=>rfl
 | a::b::p,acc,h=>by
  rw[rtK,if_neg (h a (by simp))];exact rtK_none (b::p) _ (fun c hc=>h c (by simp at hc ⊢;right;exact hc))
theorem rtK_last:∀(p acc:L),(∀c∈p,c≠0)→rtK (p++[0]) acc=none
 | [],_,_=>rfl
 | [a],acc,h=>by
  show rtK [a,0] acc=none;rw[rtK,if_neg (h a (by simp))];rfl
 | a::b::p,acc,h=>by
  show rtK (a::b::(p++[0])) acc=none;rw[rtK,if_neg (h a (by simp))];exact rtK_last (b::p) _ (fun c hc=>h c (by simp at hc ⊢;right;exact hc))
theorem rtK_esc:∀(k r acc:L),rtK (escL k++0::1::r) acc=some (acc++k,r)
 | [],r,acc=>by simp[escL,rtK]
 | c::k,r,acc=>by
  by_cases hc:c=0
  ·subst hc;have ih:=rtK_esc k r (acc++[0]);unfold escL;rw[if_pos rfl];show rtK (0::255::(escL k++0::1::r)) acc=_;rw[rtK,if_pos rfl,if_neg (by decide),if_pos rfl,ih];simp
  ·have ih:=rtK_esc k r (acc++[c]);unfold escL;rw[if_neg hc]
   have hne:∃b t,escL k++0::1::r=b::t:=by
    rcases h:escL k with _ | ⟨b,t⟩
    ·exact⟨_,_,rfl⟩
    ·exact⟨b,t++0::1::r,rfl⟩
   obtain⟨b,t,hbt⟩:=hne;show rtK (c::(escL k++0::1::r)) acc=_;rw[hbt] at ih ⊢;rw[rtK,if_neg hc,ih];simp
theorem rtK_len:∀(s acc t r:L),rtK s acc=some (t,r)→r.length+2≤s.length∧t.length≤acc.length+s.length
 | [],_,_,_,h=>by cases h
 | [_],_,_,_,h=>by cases h
 | a::b::s,acc,t,r,h=>by
  rw[rtK] at h
  split at h
  ·split at h
   ·injection h with h;injection h with h1 h2;subst h1 h2;simp
   ·split at h
    ·have:=rtK_len s _ t r h
     simp at this ⊢;omega
    ·cases h
  ·have:=rtK_len (b::s) _ t r h
   simp at this ⊢;omega
structure Pt where
 text:Bool
 s:L
 n:Nat
def partsF:Nat→L→List Pt→Option (List Pt)
 | _,[],out=>some out
 | 0,_::_,_=>none
 | f+1,c::r,out=>if c=1 then (match readVar r with
   | none=>none
   | some (n,z)=>partsF f (r.drop z) (out++[⟨false,[],n⟩]))
  else if c=2 then (match rtK r [] with
   | none=>none
   | some (t,rest)=>partsF f rest (out++[⟨true,t,0⟩]))
  else none
def partsP (k:L):Option (List Pt):=partsF k.length k []
theorem partsP_str (k:L):partsP (strKey k)=some [⟨true,k,0⟩]:=by
 unfold partsP strKey;rw[List.length_cons,partsF,if_neg (by decide),if_pos rfl,show escL k++[0,1]=escL k++0::1::[] from rfl,rtK_esc];simp[partsF]
structure Ent where
 key:L
 value:L
 seq:Nat
 gone:Bool
def internalL (key:L)(seq:Nat):L:=strKey key++bigL (18446744073709551615-seq) 8
def entryP (k v:L):Option Ent:=if k.length<8∨v=[] then none else
 match partsP (k.take (k.length-8)) with
 | some [p]=>some ⟨p.s,v.drop 1,18446744073709551615-beV (k.drop (k.length-8)),v.take 1==[1]⟩
 | _=>none
def rowK (e:Ent):L:=internalL e.key e.seq
def rowV (e:Ent):L:=(if e.gone then 1 else 0)::e.value
theorem entryP_row (e:Ent)(h:e.seq≤18446744073709551615):entryP (rowK e) (rowV e)=some e:=by
 have hl:(rowK e).length-8=(strKey e.key).length:=by unfold rowK internalL;rw[List.length_append,bigL_len];omega
 unfold entryP;rw[if_neg (by unfold rowV rowK internalL;rw[List.length_append,bigL_len];simp),hl];unfold rowK internalL;rw[List.take_left,List.drop_left,partsP_str];simp only[];rw[beV_big,Nat.mod_eq_of_lt (by omega)];unfold rowV;obtain⟨k,v,q,g⟩:=e
 cases g<;>simp at h ⊢<;>omega
theorem internalL_len (k:L)(q:Nat):(internalL k q).length≤2*k.length+11:=by
 have:=escL_len k;unfold internalL strKey;rw[List.length_append,bigL_len];simp;omega
end Go.Proofs.YtlpojfgeocpkeaaGreatDoor
namespace Go.Proofs.YtlpojfgeocpkeaaGreatDoor
open Go.Sort
set_option linter.unusedVariables false
set_option linter.unusedSimpArgs false
section
variable {α:Type}[Inhabited α]
def srch (p:Nat→Bool)(i j:Nat):Nat:=if h:i<j then (if p ((i+j) / 2) then srch p ((i+j) / 2+1) j else srch p i ((i+j) / 2)) else i
termination_by j-i
theorem srch_spec (p:Nat→Bool):∀(n i j:Nat),j-i=n→i≤j→i≤srch p i j∧srch p i j≤j∧(srch p i j=i∨p (srch p i j-1)=true)∧(srch p i j=j∨p (srch p i j)=false):=by
 intro n
 induction n using Nat.strongRecOn with
 | ind n ih =>
  intro i j hn hij;rw[srch];split
  ·rename_i h
   split
   ·rename_i hp
    obtain⟨h1,h2,h3,h4⟩:=ih (j-((i+j) / 2+1)) (by omega) _ _ rfl (by omega);refine⟨by omega,h2,.inr ?_,h4⟩;rcases h3 with h3 | h3
    ·rw[h3,Nat.add_sub_cancel];exact hp
    ·exact h3
   ·rename_i hp
    obtain⟨h1,h2,h3,h4⟩:=ih ((i+j) / 2-i) (by omega) _ _ rfl (by omega);refine⟨h1,by omega,h3,.inr ?_⟩;rcases h4 with h4 | h4
    ·rw[h4];simpa using hp
    ·exact h4
  ·have:i=j:=by omega
   exact⟨Nat.le_refl _,hij,.inl rfl,.inl this⟩
def swapR (a b:Nat):Nat→Nat→Array α→Array α
 | _,0,d=>d
 | i,k+1,d=>swapR a b (i+1) k (swp d (a+i) (b+i))
theorem swapR_size (a b:Nat):∀(k i:Nat) (d:Array α),(swapR a b i k d).size=d.size
 | 0,_,_=>rfl
 | k+1,i,d=>by unfold swapR;rw[swapR_size a b k,swp_size]
theorem swapR_get (a b:Nat):∀(k i:Nat) (d:Array α),a+i+k≤b+i→b+i+k≤d.size→∀t,(swapR a b i k d)[t]! = if a+i≤t∧t<a+i+k then d[t+b-a]! else if b+i≤t∧t<b+i+k then d[t+a-b]! else d[t]!
 | 0,i,d,h1,h2,t=>by
  unfold swapR;rw[if_neg (by omega),if_neg (by omega)]
 | k+1,i,d,h1,h2,t=>by
  unfold swapR;rw[swapR_get a b k (i+1) _ (by omega) (by rw[swp_size];omega)];have g:=swp_get d (show a+i<d.size by omega) (show b+i<d.size by omega);rw[g,g,g]
  (repeat' split)<;>first | rfl | (exfalso;omega) | (congr 1;omega)
theorem swapR_perm (a b lo hi:Nat):∀(k i:Nat) (d:Array α),lo≤a+i→lo≤b+i→a+i+k≤hi→b+i+k≤hi→hi≤d.size→PermIn lo hi d (swapR a b i k d)
 | 0,i,d,_,_,_,_,_=>permIn_refl _ _ _
 | k+1,i,d,h1,h2,h3,h4,h5=>by
  unfold swapR;exact permIn_trans _ _ _ _ _ (swp_permIn d lo hi (a+i) (b+i) h1 (by omega) h2 (by omega) h5) (swapR_perm a b lo hi k (i+1) _ (by omega) (by omega) (by omega) (by omega) (by rw[swp_size];exact h5))
def rotG (m:Nat):Nat→Nat→Nat→Array α→Array α
 | 0,_,_,d=>d
 | f+1,i,j,d=>if i=j then swapR (m-i) m 0 i d else if j<i then rotG m f (i-j) j (swapR (m-i) m 0 j d) else rotG m f i (j-i) (swapR (m-i) (m+j-i) 0 i d)
theorem rotG_size (m:Nat):∀(f i j:Nat) (d:Array α),(rotG m f i j d).size=d.size
 | 0,_,_,_=>rfl
 | f+1,i,j,d=>by
  unfold rotG;split
  ·exact swapR_size _ _ _ _ _
  ·split
   ·rw[rotG_size m f,swapR_size]
   ·rw[rotG_size m f,swapR_size]
theorem rotG_get (m:Nat):∀(f i j:Nat) (d:Array α),0<i→0<j→i+j≤f→i≤m→m+j≤d.size→∀t,(rotG m f i j d)[t]! = if m-i≤t∧t<m-i+j then d[t+i]! else if m-i+j≤t∧t<m+j then d[t-j]! else d[t]!
 | 0,i,j,d,h1,h2,h3,_,_,t=>by omega
 | f+1,i,j,d,h1,h2,h3,h4,h5,t=>by
  unfold rotG;split
  ·rename_i e
   subst e;rw[swapR_get _ _ _ _ _ (by omega) (by omega)]
   (repeat' split)<;>first | rfl | (exfalso;omega) | (congr 1;omega)
  ·split
   ·rw[rotG_get m f (i-j) j _ (by omega) h2 (by omega) (by omega) (by rw[swapR_size];omega)];have g:=swapR_get (m-i) m j 0 d (by omega) (by omega);rw[g,g,g]
    (repeat' split)<;>first | rfl | (exfalso;omega) | (congr 1;omega)
   ·rw[rotG_get m f i (j-i) _ h1 (by omega) (by omega) h4 (by rw[swapR_size];omega)];have g:=swapR_get (m-i) (m+j-i) i 0 d (by omega) (by omega);rw[g,g,g]
    (repeat' split)<;>first | rfl | (exfalso;omega) | (congr 1;omega)
theorem rotG_perm (m lo hi:Nat):∀(f i j:Nat) (d:Array α),0<i→0<j→i+j≤f→lo+i≤m→m+j≤hi→hi≤d.size→PermIn lo hi d (rotG m f i j d)
 | 0,i,j,d,_,_,_,_,_,_=>permIn_refl _ _ _
 | f+1,i,j,d,h1,h2,h3,h4,h5,h6=>by
  unfold rotG;split
  ·exact swapR_perm _ _ lo hi _ _ _ (by omega) (by omega) (by omega) (by omega) h6
  ·split
   ·exact permIn_trans _ _ _ _ _ (swapR_perm (m-i) m lo hi j 0 d (by omega) (by omega) (by omega) (by omega) h6) (rotG_perm m lo hi f (i-j) j _ (by omega) h2 (by omega) (by omega) h5 (by rw[swapR_size];exact h6))
   ·exact permIn_trans _ _ _ _ _ (swapR_perm (m-i) (m+j-i) lo hi i 0 d (by omega) (by omega) (by omega) (by omega) h6) (rotG_perm m lo hi f i (j-i) _ h1 (by omega) (by omega) h4 (by omega) (by rw[swapR_size];exact h6))
def upG:Nat→Nat→Array α→Array α
 | _,0,d=>d
 | k,r+1,d=>upG (k+1) r (swp d k (k+1))
theorem upG_size:∀(r k:Nat) (d:Array α),(upG k r d).size=d.size
 | 0,_,_=>rfl
 | r+1,k,d=>by unfold upG;rw[upG_size r,swp_size]
theorem upG_get:∀(r k:Nat) (d:Array α),k+r<d.size→∀t,(upG k r d)[t]! = if k≤t∧t<k+r then d[t+1]! else if t=k+r then d[k]! else d[t]!
 | 0,k,d,h,t=>by
  unfold upG;rw[if_neg (by omega)];split
  ·rename_i e;rw[e,Nat.add_zero]
  ·rfl
 | r+1,k,d,h,t=>by
  unfold upG;rw[upG_get r (k+1) _ (by rw[swp_size];omega)];have g:=swp_get d (show k<d.size by omega) (show k+1<d.size by omega);rw[g,g,g]
  (repeat' split)<;>first | rfl | (exfalso;omega) | (congr 1;omega)
theorem upG_perm (lo hi:Nat):∀(r k:Nat) (d:Array α),lo≤k→k+r<hi→hi≤d.size→PermIn lo hi d (upG k r d)
 | 0,_,_,_,_,_=>permIn_refl _ _ _
 | r+1,k,d,h1,h2,h3=>by
  unfold upG;exact permIn_trans _ _ _ _ _ (swp_permIn d lo hi k (k+1) h1 (by omega) (by omega) (by omega) h3) (upG_perm lo hi r (k+1) _ (by omega) (by omega) (by rw[swp_size];exact h3))
def dnG (i:Nat):Nat→Array α→Array α
 | 0,d=>d
 | r+1,d=>dnG i r (swp d (i+r+1) (i+r))
theorem dnG_size (i:Nat):∀(r:Nat) (d:Array α),(dnG i r d).size=d.size
 | 0,_=>rfl
 | r+1,d=>by unfold dnG;rw[dnG_size i r,swp_size]
theorem dnG_get (i:Nat):∀(r:Nat) (d:Array α),i+r<d.size→∀t,(dnG i r d)[t]! = if i<t∧t≤i+r then d[t-1]! else if t=i then d[i+r]! else d[t]!
 | 0,d,h,t=>by
  unfold dnG;rw[if_neg (by omega)];split
  ·rename_i e;rw[e,Nat.add_zero]
  ·rfl
 | r+1,d,h,t=>by
  unfold dnG;rw[dnG_get i r _ (by rw[swp_size];omega)];have g:=swp_get d (show i+r+1<d.size by omega) (show i+r<d.size by omega);rw[g,g,g]
  (repeat' split)<;>first | rfl | (exfalso;omega) | (congr 1;omega)
theorem dnG_perm (i lo hi:Nat):∀(r:Nat) (d:Array α),lo≤i→i+r<hi→hi≤d.size→PermIn lo hi d (dnG i r d)
 | 0,_,_,_,_=>permIn_refl _ _ _
 | r+1,d,h1,h2,h3=>by
  unfold dnG;exact permIn_trans _ _ _ _ _ (swp_permIn d lo hi (i+r+1) (i+r) (by omega) (by omega) (by omega) (by omega) h3) (dnG_perm i lo hi r _ h1 (by omega) (by rw[swp_size];exact h3))
variable (lt:α→α→Bool)
def symS (a m b:Nat)(d:Array α):Nat:=srch (fun c=>!lt d[(a+b) / 2+m-1-c]! d[c]!) (if (a+b) / 2<m then (a+b) / 2+m-b else a) (if (a+b) / 2<m then (a+b) / 2 else m)
def symR (a m b:Nat)(d:Array α)(s:Nat):Array α:=if s<m∧m<(a+b) / 2+m-s then rotG m ((a+b) / 2+m-s-s) (m-s) ((a+b) / 2+m-s-m) d else d
def symM:Nat→Nat→Nat→Nat→Array α→Array α
 | 0,_,_,_,d=>d
 | f+1,a,m,b,d =>
  if m-a=1 then upG a (srch (fun h=>lt d[h]! d[a]!) m b-1-a) d
  else if b-m=1 then dnG (srch (fun h=>!lt d[m]! d[h]!) a m) (m-srch (fun h=>!lt d[m]! d[h]!) a m) d
  else
   let s:=symS lt a m b d
   let d1:=symR a m b d s
   let d2:=if a<s∧s<(a+b) / 2 then symM f a s ((a+b) / 2) d1 else d1
   if (a+b) / 2<(a+b) / 2+m-s∧(a+b) / 2+m-s<b then symM f ((a+b) / 2) ((a+b) / 2+m-s) b d2 else d2
variable {lt}
theorem symS_spec (a m b:Nat)(d:Array α)(h1:a<m)(h2:m<b) :
  let mid:=(a+b) / 2
  let s:=symS lt a m b d
  let e:=mid+m-s
  a≤s∧s≤m∧s≤mid∧m≤e∧e≤b∧mid≤e∧s+(e-m)=mid∧mid+(m-s)=e ∧
   (s=a∨e=b∨lt d[e]! d[s-1]! = false)∧(s=m∨e=m∨lt d[e-1]! d[s]! = true):=by
 intro mid s e
 have hs:=srch_spec (fun c=>!lt d[(a+b) / 2+m-1-c]! d[c]!) _ (if (a+b) / 2<m then (a+b) / 2+m-b else a) (if (a+b) / 2<m then (a+b) / 2 else m) rfl (by split<;>omega)
 change _≤s∧s≤_∧(s=_∨_)∧(s=_∨_) at hs;obtain⟨g1,g2,g3,g4⟩:=hs;have hmid:mid=(a+b) / 2:=rfl;have he:e=mid+m-s:=rfl
 have hb1:a≤s∧s≤m∧s≤mid∧mid+m-b≤s:=by
  revert g1 g2
  split<;>intro g1 g2<;>refine⟨?_,?_,?_,?_⟩<;>omega
 refine⟨hb1.1,hb1.2.1,hb1.2.2.1,by omega,by omega,by omega,by omega,by omega,?_,?_⟩
 ·rcases g3 with g3 | g3
  ·revert g3
   split
   ·intro g3;exact .inr (.inl (by omega))
   ·intro g3;exact .inl g3
  ·by_cases hsa:s=a
   ·exact .inl hsa
   ·refine .inr (.inr ?_)
    have:(a+b) / 2+m-1-(s-1)=e:=by omega
    have g3':(!lt d[(a+b) / 2+m-1-(s-1)]! d[s-1]!)=true:=g3;rw[this] at g3'
    simpa using g3'
 ·rcases g4 with g4 | g4
  ·revert g4
   split
   ·intro g4;exact .inr (.inl (by omega))
   ·intro g4;exact .inl g4
  ·by_cases hsm:s=m
   ·exact .inl hsm
   ·refine .inr (.inr ?_)
    have:(a+b) / 2+m-1-s=e-1:=by omega
    have g4':(!lt d[(a+b) / 2+m-1-s]! d[s]!)=false:=g4;rw[this] at g4'
    simpa using g4'
theorem symR_size (a m b:Nat)(d:Array α)(s:Nat):(symR a m b d s).size=d.size:=by
 unfold symR;split
 ·exact rotG_size _ _ _ _ _
 ·rfl
theorem symM_size:∀(f a m b:Nat) (d:Array α),(symM lt f a m b d).size=d.size
 | 0,_,_,_,_=>rfl
 | f+1,a,m,b,d=>by
  unfold symM;split
  ·exact upG_size _ _ _
  split
  ·exact dnG_size _ _ _
  simp only;split
  ·rw[symM_size f];split
   ·rw[symM_size f,symR_size]
   ·exact symR_size _ _ _ _ _
  ·split
   ·rw[symM_size f,symR_size]
   ·exact symR_size _ _ _ _ _
end
end Go.Proofs.YtlpojfgeocpkeaaGreatDoor
