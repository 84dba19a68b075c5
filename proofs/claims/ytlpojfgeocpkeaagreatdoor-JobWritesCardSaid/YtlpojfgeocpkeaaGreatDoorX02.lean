/- Maps from texts to pointers: as lists in the order of their keys. What holds of every disk that its operations leave: kept by each of them. No program in sight. A disk in memory, as the plain data says. Contracts: burns, file, does. Contracts: changed. Contracts: changed. Contracts: right. -/
import Derived.Test.YtlpojfgeocpkeaaGreatDoorRows
import Derived.Test.YtlpojfgeocpkeaaGreatDoorX01
import Derived.WalkKit
import Derived.Maps.OwnSet
import Derived.Maps.RangeWalk
import Derived.Maps.Ext
import Derived.Lib.Hide
import Derived.Test.YtlpojfgeocpkeaaGreatDoorX00
import Derived.LoopTactic
import Derived.Lib.ConvBytes
namespace Go.Proofs.YtlpojfgeocpkeaaGreatDoor
open Go.RowKit
set_option linter.unusedVariables false
set_option linter.unusedSimpArgs false
def ptrR (v:Value):Option (DataW Unit × List MemPlace):=match v with
 | .pointer (some ⟨b,0,none⟩)=>some (.lit (.int .u64 (b:Nat)),[])
 | .pointer none=>some (.nil,[])
 | _=>none
def ptrV:Option Nat→Value
 | some b=>.pointer (some ⟨b,0,none⟩)
 | none=>.pointer none
def lookV:Option Nat→Value
 | some b=>.tuple #[.pointer (some ⟨b,0,none⟩),.bool true]
 | none=>.tuple #[.pointer none,.bool false]
theorem ptrR_some {v:Value}{b:Nat}{ps:List MemPlace}(h:ptrR v=some (.lit (.int .u64 (b:Nat)),ps)):v=.pointer (some ⟨b,0,none⟩):=by
 unfold ptrR at h
 split at h
 ·rename_i b'
  simp at h
  have:b'=b:=by have:=h.1;omega
  rw[this]
 ·simp at h
 ·simp at h
theorem ptrR_nil {v:Value}{ps:List MemPlace}(h:ptrR v=some (.nil,ps)):v=.pointer none:=by
 unfold ptrR at h
 split at h<;>simp at h
 rfl
def nmE (p:List UInt8 × Nat):Lit × DataW Unit:=(.string p.1,.lit (.int .u64 (p.2:Nat)))
def nmD (m:NM):DataW Unit:=.map (m.map nmE)
theorem nm_insert (x:List UInt8 × Nat):∀m:NM,DataW.insert (nmE x) (m.map nmE)=(insM x m).map nmE
 | []=>rfl
 | y::r=>by
  simp only[List.map_cons,DataW.insert,insM];have e:(nmE x).1.before (nmE y).1=bytesBefore x.1 y.1:=rfl;rw[e];split
  ·rfl
  ·rw[List.map_cons,nm_insert x r]
theorem nmD_del (k:List UInt8)(m:NM):(nmD m).del (.string k)=nmD (delM k m):=by
 show DataW.map ((m.map nmE).filter fun p=>!p.1.sameKey (.string k))=DataW.map ((delM k m).map nmE);rw[List.filter_map];rfl
theorem nmD_put (k:List UInt8)(v:Nat)(m:NM):(nmD m).put (.string k) (.lit (.int .u64 (v:Nat)))=nmD (putM k v m):=by
 have h:=nmD_del k m;unfold nmD DataW.del at h;unfold nmD DataW.put putM;simp only[DataW.map.injEq] at h ⊢;rw[h];exact nm_insert (k,v) _
theorem nmD_at (k:List UInt8)(m:NM)(zd:DataW Unit):(nmD m).atKey (.string k) zd=match getM k m with | some v=>.lit (.int .u64 (v:Nat)) | none=>zd:=by
 unfold nmD DataW.atKey getM
 induction m with
 | nil=>rfl
 | cons y r ih =>
  simp only[List.map_cons,List.find?_cons];have e:(nmE y).1.sameKey (.string k)=(y.1==k):=rfl;rw[e];cases y.1==k
  ·exact ih
  ·rfl
theorem nmD_has (k:List UInt8)(m:NM):Maps.has (nmD m) (.string k)=(getM k m).isSome:=by
 unfold nmD getM;rw[Maps.has_eq]
 induction m with
 | nil=>rfl
 | cons y r ih =>
  simp only[List.map_cons,List.any_cons,List.find?_cons];have e:(nmE y).1.sameKey (.string k)=(y.1==k):=rfl;rw[e];cases y.1==k
  ·simpa using ih
  ·rfl
theorem nmD_size (m:NM):Maps.size (nmD m)=m.length:=by
 unfold nmD;rw[Maps.size_eq,List.length_map]
def MapAt (P:Program)(k:TypeId)(w:World)(g:Nat)(m:NM):Prop:=w.ownsMap P k ptrR g m.length (nmD m)
section
variable {P:Program}{k e t:TypeId}{w:World}{g:Nat}{m:NM}
theorem MapAt.of {n:Nat}(h:w.ownsMap P k ptrR g n (nmD m)):MapAt P k w g m:=by
 obtain⟨es,clock,hb,F,_,hD⟩:=h;refine⟨es,clock,hb,F,?_,hD⟩
 have h1:Maps.size (nmD m)=es.size:=by rw[hD];simp[Maps.size,length_sorted]
 rw[nmD_size] at h1;omega
theorem MapAt.lt (h:MapAt P k w g m):g<w.heap.size:=World.ownsMap.lt h
theorem MapAt.new (w:World):MapAt P k (w.alloc (.map #[] 0)) w.heap.size []:=World.ownsMap_made w P k ptrR
theorem MapAt.block {w':World}(h:MapAt P k w g m)(hb:w'.heap[g]? = w.heap[g]?):MapAt P k w' g m:=by
 obtain⟨es,clock,h1,F,hs,hD⟩:=h;exact⟨es,clock,hb.trans h1,F,hs,hD⟩
theorem nm_key (hk:P.underlying k=some .string){s:ByteArray}(hs:s.size≤maxLen):keyOf P k (.string s)=some (.string s.data.toList):=by
 simp[keyOf,hk,mapKey,hs]
theorem MapAt.look_ok (h:MapAt P k w g m)(hk:P.underlying k=some .string)(ht:P.underlying t=some (.map k e))(hz:(zeroValue e).run P w=.ok (.pointer none) w){s:ByteArray}(hs:s.size≤maxLen) :
  (Instr.lookup t (.map (some g)) (.string s) true).run P w=.ok (lookV (getM s.data.toList m)) w:=by
 obtain⟨v,ps,hrun,hv⟩:=World.ownsMap.look_ok h (Maps.string_keyed hk) ht hz (zd:=.nil) (zp:=[]) rfl (nm_key hk hs);rw[nmD_at] at hv;rw[nmD_has] at hrun;rw[hrun]
 cases hg:getM s.data.toList m with
 | none=>rw[hg] at hv;rw[ptrR_nil hv];rfl
 | some b=>rw[hg] at hv;rw[ptrR_some hv];rfl
theorem MapAt.store (h:MapAt P k w g m)(hk:P.underlying k=some .string)(ht:P.underlying t=some (.map k e))(hn:m.length<maxLen){s:ByteArray}(hs:s.size≤maxLen)(b:Nat) :
  ∃w',(Instr.mapUpdate t (.map (some g)) (.string s) (.pointer (some ⟨b,0,none⟩))).run P w=.ok () w'∧MapAt P k w' g (putM s.data.toList b m)∧w.mapTurned w' g:=by
 obtain⟨w',hrun,h1,h2⟩:=World.ownsMap.store h (Maps.string_keyed hk) ht hn (nm_key hk hs) (d:=.lit (.int .u64 (b:Nat))) (ps:=[]) (val:=.pointer (some ⟨b,0,none⟩)) rfl;rw[nmD_put] at h1;exact⟨w',hrun,MapAt.of h1,h2⟩
theorem MapAt.drop (h:MapAt P k w g m)(hk:P.underlying k=some .string)(ht:P.underlying t=some (.map k e)){s:ByteArray}(hs:s.size≤maxLen)(ty:TypeId) :
  ∃w',(Builtin.delete_ #[t,k] ty #[.map (some g),.string s]).run P w=.ok (.tuple #[]) w'∧MapAt P k w' g (delM s.data.toList m)∧w.mapTurned w' g:=by
 obtain⟨w',hrun,h1,h2⟩:=World.ownsMap.drop h (Maps.string_keyed hk) ht (nm_key hk hs) ty;rw[nmD_del] at h1;exact⟨w',hrun,MapAt.of h1,h2⟩
end
section
variable {P:Program}(w:World){ops:Array Oper}{rest:List Oper}{o:Oper}{a:Act}{Q:Exit→Act→World→Prop}
theorem wpList_nm_store (hgd:o.guard=none)(mo x v:Operand)(t:TypeId)(hop:o.op=Op.mapUpdate t mo x v)(k e:TypeId)(hk:P.underlying k=some .string)(ht:P.underlying t=some (.map k e))
  (g:Nat) (m:NM) (hm:a.eval mo=.map (some g)) (h:MapAt P k w g m) (hn:m.length<maxLen) (s:ByteArray) (b:Nat) (hx:a.eval x=.string s) (hv:a.eval v=.pointer (some ⟨b,0,none⟩)) (hs:s.size≤maxLen)
  (hK:∀w',MapAt P k w' g (putM s.data.toList b m)→w.mapTurned w' g→wpList P ops Q rest (a.put o.dst undef) w'):wpList P ops Q (o::rest) a w:=by
 refine wpList_plain hgd fun K' hK'=>?_;obtain⟨w',hrun,r1,r2⟩:=h.store hk ht hn hs b;unfold Oper.wp;simp[execOp,hop,hm,hx,hv,hrun,Result.andThen];exact hK' _ _ (hK w' r1 r2)
theorem wpList_nm_delete (hgd:o.guard=none)(mo x:Operand)(t k:TypeId)(hop:o.op=Op.call { callee:=Callee.builtin Builtin.delete,args:=#[mo,x],argTypes:=#[t,k] })(e:TypeId)(hk:P.underlying k=some .string)(ht:P.underlying t=some (.map k e))
  (g:Nat) (m:NM) (hm:a.eval mo=.map (some g)) (h:MapAt P k w g m) (s:ByteArray) (hx:a.eval x=.string s) (hs:s.size≤maxLen)
  (hK:∀w',MapAt P k w' g (delM s.data.toList m)→w.mapTurned w' g→wpList P ops Q rest (a.put o.dst (.tuple #[])) w'):wpList P ops Q (o::rest) a w:=by
 refine wpList_plain hgd fun K' hK'=>?_;obtain⟨w',hrun,r1,r2⟩:=h.drop hk ht hs o.type;unfold Oper.wp;simp[execOp,hop,resolve,invoke,builtin,hm,hx,hrun,Result.andThen];exact hK' _ _ (hK w' r1 r2)
end
end Go.Proofs.YtlpojfgeocpkeaaGreatDoor
namespace Go.Proofs.YtlpojfgeocpkeaaGreatDoor
set_option linter.unusedVariables false
set_option linter.unusedSimpArgs false
structure Dsk.Ok (s:Dsk):Prop where
 room:s.room≤1048576
 fuse:s.fuse≤9223372036854775807
 names:∀p∈s.names,p.1.length≤24∧p.2<s.files.length
 last:∀p∈s.last,p.1.length≤24∧p.2<s.files.length
 chg:∀c∈s.chg,c.fr.length≤24∧c.toN.length≤24∧(∀i,c.f=some i→i<s.files.length)∧(c.toN≠[]→c.f≠none)
 file:∀f∈s.files,f.k≤f.d.length∧f.d.length≤1048576
theorem Dsk.burn_pos {s:Dsk}(h:0<s.fuse):s.burn={ s with fuse:=s.fuse-1,off:=s.fuse-1==0 }:=by unfold Dsk.burn;rw[if_pos h]
theorem Dsk.burn_zero {s:Dsk}(h:¬0<s.fuse):s.burn=s:=by unfold Dsk.burn;rw[if_neg h]
theorem Dsk.burn_same {s:Dsk}:s.burn.files=s.files∧s.burn.names=s.names∧s.burn.last=s.last∧s.burn.chg=s.chg∧s.burn.room=s.room∧s.burn.fuse≤s.fuse:=by
 by_cases h:0<s.fuse
 ·rw[Dsk.burn_pos h];exact⟨rfl,rfl,rfl,rfl,rfl,Nat.sub_le _ _⟩
 ·rw[Dsk.burn_zero h];exact⟨rfl,rfl,rfl,rfl,rfl,Nat.le_refl _⟩
section
variable {s:Dsk}
theorem Dsk.Ok.burn (ok:s.Ok):s.burn.Ok:=by
 obtain⟨h1,h2,h3,h4,h5,h6⟩:=@Dsk.burn_same s;exact⟨by rw[h5];exact ok.room,by have:=ok.fuse;omega,by rw[h1,h2];exact ok.names,by rw[h1,h3];exact ok.last,by rw[h1,h4];exact ok.chg,by rw[h1];exact ok.file⟩
theorem Dsk.Ok.newFile (ok:s.Ok):({ s with files:=s.files++[⟨[],0⟩] }:Dsk).Ok:=by
 refine⟨ok.room,ok.fuse,fun p hp=>?_,fun p hp=>?_,fun c hc=>?_,fun f hf=>?_⟩
 ·have:=ok.names p hp;simp;omega
 ·have:=ok.last p hp;simp;omega
 ·obtain⟨a,b,e,g⟩:=ok.chg c hc;exact⟨a,b,fun i hi=>by have:=e i hi;simp;omega,g⟩
 ·simp at hf;rcases hf with hf | rfl
  ·exact ok.file f hf
  ·exact⟨Nat.le_refl _,by simp⟩
theorem doesC_mem {m:NM}{c:Chg}{p:List UInt8 × Nat}(h:p∈doesC m c):p∈m∨(c.toN≠[]∧p=(c.toN,c.f.getD 0)):=by
 unfold doesC at h
 simp only[] at h
 by_cases h2:c.toN=[]
 ·rw[if_pos h2] at h
  by_cases h1:c.fr=[]
  ·rw[if_pos h1] at h;exact .inl h
  ·rw[if_neg h1] at h;exact .inl ((delM_mem _ _ _).1 h).1
 ·rw[if_neg h2] at h;rcases (putM_mem _ _ _ _).1 h with h | ⟨h,_⟩
  ·exact .inr ⟨h2,h⟩
  ·by_cases h1:c.fr=[]
   ·rw[if_pos h1] at h;exact .inl h
   ·rw[if_neg h1] at h;exact .inl ((delM_mem _ _ _).1 h).1
theorem doesC_ok {m:NM}{c:Chg}{n:Nat}(hm:∀p∈m,p.1.length≤24∧p.2<n)(h2:c.toN.length≤24)(h3:∀i,c.f=some i→i<n)(h4:c.toN≠[]→c.f≠none):∀p∈doesC m c,p.1.length≤24∧p.2<n:=by
 intro p hp
 rcases doesC_mem hp with h | ⟨h,rfl⟩
 ·exact hm p h
 ·obtain⟨i,hi⟩:=Option.ne_none_iff_exists'.1 (h4 h);refine⟨h2,?_⟩;simp only[hi,Option.getD_some];exact h3 i hi
theorem Dsk.Ok.changed (ok:s.Ok){c:Chg}(h1:c.fr.length≤24)(h2:c.toN.length≤24)(h3:∀i,c.f=some i→i<s.files.length)(h4:c.toN≠[]→c.f≠none):(s.changed c).1.Ok:=by
 obtain⟨e1,e2,e3,e4,e5,e6⟩:=@Dsk.burn_same s;have hb:=ok.burn;unfold Dsk.changed;split
 ·exact hb
 ·refine⟨hb.room,hb.fuse,doesC_ok hb.names h2 (by rw[e1];exact h3) h4,hb.last,fun x hx=>?_,hb.file⟩
  simp only[List.mem_append,List.mem_singleton] at hx;rcases hx with hx | rfl
  ·exact hb.chg x hx
  ·exact⟨h1,h2,by rw[e1];exact h3,h4⟩
theorem rightB_len {n:List UInt8}(h:rightB n=true):n.length≤24:=by
 unfold rightB at h;simp at h;exact h.1.2
theorem Dsk.Ok.create (ok:s.Ok)(n:Nm):(s.create n).1.Ok:=by
 unfold Dsk.create;split
 ·exact ok
 ·split
  ·exact ok
  ·split
   ·rename_i h
    exact ok.newFile.changed (by simp) (rightB_len h) (fun i hi=>by simp at hi;subst hi;simp) (by simp)
   ·exact ok
theorem Dsk.Ok.delete (ok:s.Ok)(n:Nm):(s.delete n).1.Ok:=by
 unfold Dsk.delete;split
 ·exact ok
 ·split
  ·exact ok
  ·rename_i h
   exact ok.changed (ok.names _ (getM_mem h)).1 (by simp) (by simp) (by simp)
theorem Dsk.Ok.setF (ok:s.Ok)(i:Nat)(g:Fil→Fil)(hg:∀f,s.files[i]? = some f→(g f).k≤(g f).d.length∧(g f).d.length≤1048576):(s.setF i g).Ok:=by
 unfold Dsk.setF
 cases hi:s.files[i]? with
 | none=>exact ok
 | some f =>
  refine⟨ok.room,ok.fuse,by simpa using ok.names,by simpa using ok.last,by simpa using ok.chg,fun x hx=>?_⟩;rcases List.mem_or_eq_of_mem_set hx with h | rfl
  ·exact ok.file x h
  ·exact hg f hi
theorem Dsk.Ok.sync (ok:s.Ok)(n:Nm):(s.sync n).1.Ok:=by
 unfold Dsk.sync;split
 ·exact ok
 ·split
  ·exact ok
  ·split
   ·exact ok.burn
   ·exact ok.burn.setF _ _ fun f hf=>⟨Nat.le_refl _,(ok.burn.file f (List.mem_of_getElem? hf)).2⟩
theorem Dsk.dlen_used {n:List UInt8}{i:Nat}(hg:getM n s.names=some i):s.dlen i≤s.used:=by
 unfold Dsk.used;have h:=getM_mem hg
 have:∀(m:NM) (p:List UInt8 × Nat),p∈m→s.dlen p.2≤(m.map fun q=>s.dlen q.2).sum:=by
  intro m
  induction m with
  | nil=>intro p hp;cases hp
  | cons q m ih =>
   intro p hp;rw[List.map_cons,List.sum_cons];rcases List.mem_cons.1 hp with rfl | hp
   ·omega
   ·have:=ih p hp;omega
 exact this _ _ h
theorem Dsk.Ok.append (ok:s.Ok)(n:Nm)(x:List UInt8):(s.append n x).1.Ok:=by
 unfold Dsk.append;split
 ·exact ok
 ·split
  ·exact ok
  ·rename_i i h
   split
   ·exact ok
   ·rename_i hr
    split
    ·exact ok.burn
    ·refine ok.burn.setF _ _ fun f hf=>?_;have h1:=ok.burn.file f (List.mem_of_getElem? hf);have h2:=Dsk.dlen_used h;rw[Dsk.burn_same.1] at hf
     have h3:s.dlen i=f.d.length:=by unfold Dsk.dlen;rw[hf]
     have:=ok.room;simp only[List.length_append];omega
theorem Dsk.Ok.dirsync (ok:s.Ok):s.dirsync.1.Ok:=by
 unfold Dsk.dirsync;split
 ·exact ok
 ·split
  ·exact ok.burn
  ·exact⟨ok.burn.room,ok.burn.fuse,ok.burn.names,ok.burn.names,(fun c hc=>(by cases hc)),ok.burn.file⟩
theorem Dsk.Ok.new (r:Int):(Dsk.new r).Ok:=⟨by unfold Dsk.new;simp only[];omega,by simp[Dsk.new],by simp[Dsk.new],by simp[Dsk.new],by simp[Dsk.new],by simp[Dsk.new]⟩
theorem xorAt_len (l:List UInt8)(i:Nat)(m:UInt8):(xorAt l i m).length=l.length:=by
 unfold xorAt
 split<;>simp
theorem keepN_le (c:Cra)(k t:Nat):keepN c k t≤t:=by
 unfold keepN;split
 ·omega
 ·omega
theorem spoil_len (a m:Nat):∀(n:Nat) (l:List UInt8),((List.range n).foldl (fun l i=>xorAt l (a+i) (UInt8.ofNat (m / 2 ^ (8*i)))) l).length=l.length
 | 0,l=>rfl
 | n+1,l=>by
  rw[List.range_succ,List.foldl_append];simp only[List.foldl_cons,List.foldl_nil];rw[xorAt_len,spoil_len a m n l]
theorem tailC_len (c:Cra)(k:Nat)(t:List UInt8):(tailC c k t).length=keepN c k t.length:=by
 have h:=keepN_le c k t.length;unfold tailC;simp only[];split
 ·rw[List.length_take];omega
 ·split
  ·unfold spoilT;rw[spoil_len,List.length_take];omega
  ·rw[List.length_take];omega
theorem crashF_ok {c:Cra}{k:Nat}{f:Fil}(h:f.k≤f.d.length∧f.d.length≤1048576):(crashF c k f).k≤(crashF c k f).d.length∧(crashF c k f).d.length≤1048576:=by
 unfold crashF;have:=keepN_le c k (f.d.drop f.k).length;refine⟨Nat.le_refl _,?_⟩;simp only[List.length_append,tailC_len,List.length_take,List.length_drop] at this ⊢;omega
theorem crashGo_ok (c:Cra):∀(m:NM) (fs:List Fil) (k:Nat),(∀f∈fs,f.k≤f.d.length∧f.d.length≤1048576)→(crashGo c m fs k).length=fs.length∧∀f∈crashGo c m fs k,f.k≤f.d.length∧f.d.length≤1048576
 | [],fs,k,h=>⟨rfl,h⟩
 | p::r,fs,k,h=>by
  unfold crashGo
  cases hp:fs[p.2]? with
  | none=>exact crashGo_ok c r fs k h
  | some f =>
   simp only[];split
   ·have:=crashGo_ok c r (fs.set p.2 (crashF c k f)) (k+1) (fun x hx=>by
     rcases List.mem_or_eq_of_mem_set hx with h1 | rfl
     ·exact h x h1
     ·exact crashF_ok (h f (List.mem_of_getElem? hp)))
    rw[List.length_set] at this;exact this
   ·exact crashGo_ok c r fs k h
theorem doesAll_ok {n:Nat}:∀(cs:List Chg) (m:NM),(∀p∈m,p.1.length≤24∧p.2<n)→(∀c∈cs,c.fr.length≤24∧c.toN.length≤24∧(∀i,c.f=some i→i<n)∧(c.toN≠[]→c.f≠none))→∀p∈cs.foldl doesC m,p.1.length≤24∧p.2<n
 | [],m,hm,_=>hm
 | c::cs,m,hm,hc=>by
  obtain⟨a,b,e,g⟩:=hc c (by simp)
  exact doesAll_ok cs (doesC m c) (doesC_ok hm b e g) (fun x hx=>hc x (List.mem_cons_of_mem _ hx))
theorem Dsk.Ok.crash (ok:s.Ok)(c:Cra):(s.crash c).Ok:=by
 have hd:=doesAll_ok (s.chg.take (min (max c.names 0) s.chg.length).toNat) s.last ok.last (fun x hx=>ok.chg x (List.mem_of_mem_take hx))
 have hf:=crashGo_ok c ((s.chg.take (min (max c.names 0) s.chg.length).toNat).foldl doesC s.last) s.files 0 ok.file
 unfold Dsk.crash;exact⟨ok.room,ok.fuse,by simp only[];rw[hf.1];exact hd,by simp only[];rw[hf.1];exact hd,(fun x hx=>(by cases hx)),hf.2⟩
def Dsk.load (s:Dsk):Nat:=s.last.length+s.chg.length
theorem doesC_len (m:NM)(c:Chg):(doesC m c).length≤m.length+1:=by
 have h1:=delM_len c.fr m
 unfold doesC
 simp only[];split
 ·split<;>omega
 ·split
  ·exact putM_len _ _ _
  ·have:=putM_len c.toN (c.f.getD 0) (delM c.fr m);omega
theorem doesAll_len:∀(cs:List Chg) (m:NM),(cs.foldl doesC m).length≤m.length+cs.length
 | [],m=>by simp
 | c::cs,m=>by
  have:=doesAll_len cs (doesC m c)
  have:=doesC_len m c
  simp only[List.foldl_cons,List.length_cons];omega
end
end Go.Proofs.YtlpojfgeocpkeaaGreatDoor
namespace Go.Proofs.YtlpojfgeocpkeaaGreatDoor
open Go.RowKit
set_option linter.unusedVariables false
set_option linter.unusedSimpArgs false
structure Lay where
 gN:Nat
 gL:Nat
 vC:Value
 blk:Nat→Nat
 row:Nat→Value
 dead:Nat→Prop
def chgV (g:Nat→Nat)(l:List Chg):List Value:=l.flatMap fun c=>[.string (bs c.fr),.string (bs c.toN),ptrV (c.f.map g)]
structure DskAt (w:World)(F:Nat→Prop)(d:Nat)(L:Lay)(s:Dsk):Prop where
 box:Blk w d 75 #[.int .i64 s.room,.map (some L.gN),.map (some L.gL),L.vC,.bool s.off,.int .i64 s.fuse]
 names:MapAt Tryz.prog 9 w L.gN (mvM L.blk s.names)
 last:MapAt Tryz.prog 9 w L.gL (mvM L.blk s.last)
 chg:w.ownsRow 0 85 3 L.vC s.chg.length (chgV L.blk s.chg)
 file:∀i f,s.files[i]? = some f→¬L.dead i→Blk w (L.blk i) 83 #[L.row i,.int .i64 f.k]∧OwnB w 0 (L.row i) f.d
 inF:F d∧F L.gN∧F L.gL∧(∀k,L.vC.ownBlock=some k→F k)∧∀i,i<s.files.length→¬L.dead i→F (L.blk i)∧∀k,(L.row i).ownBlock=some k→F k
 ne:L.gN≠L.gL
 inj:∀i j,i<s.files.length→j<s.files.length→¬L.dead i→¬L.dead j→L.blk i=L.blk j→i=j
 live:(∀p∈s.names,¬L.dead p.2)∧(∀p∈s.last,¬L.dead p.2)∧(∀c∈s.chg,∀i,c.f=some i→¬L.dead i)∧∀i,L.dead i→i<s.files.length
 rows:∀i j k,i<s.files.length→j<s.files.length→¬L.dead i→¬L.dead j→(L.row i).ownBlock=some k→(L.row j).ownBlock=some k→i=j
section
variable {w w':World}{F:Nat→Prop}{d:Nat}{L:Lay}{s:Dsk}
theorem DskAt.kept {S:Nat→Prop}(h:DskAt w F d L s)(hk:KeptBut w w' S)(hS:∀k,F k→¬S k):DskAt w' F d L s:=by
 obtain⟨f1,f2,f3,f4,f5⟩:=h.inF;refine⟨h.box.keptB hk (hS _ f1),h.names.block (hk.block _ h.names.lt (hS _ f2)),h.last.block (hk.block _ h.last.lt (hS _ f3)),own_kept h.chg hk (fun k e=>hS _ (f4 k e)),fun i f hi hd=>?_,h.inF,h.ne,h.inj,h.live,h.rows⟩;have hi':=(List.getElem?_eq_some_iff.1 hi).1;obtain⟨a,b⟩:=h.file i f hi hd;exact⟨a.keptB hk (hS _ (f5 i hi' hd).1),own_kept b hk (fun k e=>hS _ ((f5 i hi' hd).2 k e))⟩
theorem DskAt.below (h:DskAt w F d L s)(hb:Below w.heap.size w w'):DskAt w' F d L s:=h.kept (S:=fun _=>False) (KeptBut.of_below hb) (fun _ _=>id)
theorem DskAt.more {F':Nat→Prop}(h:DskAt w F d L s)(hF:∀k,F k→F' k):DskAt w F' d L s:=by
 obtain⟨f1,f2,f3,f4,f5⟩:=h.inF;exact⟨h.box,h.names,h.last,h.chg,h.file,⟨hF _ f1,hF _ f2,hF _ f3,fun k e=>hF _ (f4 k e),fun i hi hd=>⟨hF _ (f5 i hi hd).1,fun k e=>hF _ ((f5 i hi hd).2 k e)⟩⟩,h.ne,h.inj,h.live,h.rows⟩
theorem DskAt.lt (h:DskAt w F d L s):d<w.heap.size:=h.box.lt
theorem map_ne_blk {P:Program}{k g b t:Nat}{m:NM}{cs:Array Value}(h:MapAt P k w g m)(hb:Blk w b t cs):g≠b:=by
 rintro rfl;obtain⟨es,clock,h1,_⟩:=h;unfold Blk at hb;rw[hb] at h1;cases h1
theorem own_ne_blk {B e size n b t:Nat}{v:Value}{xs:List Value}{cs:Array Value}(h:w.ownsRow B e size v n xs)(hb:Blk w b t cs)(ht:e≠t):∀k,v.ownBlock=some k→k≠b:=by
 rintro k hk rfl;rcases h.2 with⟨rfl,_⟩ | ⟨g',cap,cur,rfl,_,hh,_⟩
 ·cases hk
 ·simp only[Value.ownBlock,Option.some.injEq] at hk;subst hk;unfold Blk at hb;rw[hb] at hh;simp only[Option.some.injEq,Obj.cells.injEq] at hh;exact ht hh.2.1.symm
theorem blk_ne_blk {b b' t t':Nat}{cs cs':Array Value}(h:Blk w b t cs)(hb:Blk w b' t' cs')(ht:t≠t'):b≠b':=by
 rintro rfl;unfold Blk at h hb;rw[hb] at h;simp only[Option.some.injEq,Obj.cells.injEq] at h;exact ht h.2.1.symm
theorem DskAt.rebox {s':Dsk}(h:DskAt w F d L s)(hk:KeptBut w w' (fun k=>k=d))(hb:Blk w' d 75 #[.int .i64 s'.room,.map (some L.gN),.map (some L.gL),L.vC,.bool s'.off,.int .i64 s'.fuse])
  (h1:s'.files=s.files) (h2:s'.names=s.names) (h3:s'.last=s.last) (h4:s'.chg=s.chg):DskAt w' F d L s':=by
 refine⟨hb,?_,?_,?_,fun i f hi hd=>?_,?_,h.ne,?_,?_,?_⟩
 ·rw[h2];exact h.names.block (hk.block _ h.names.lt (map_ne_blk h.names h.box))
 ·rw[h3];exact h.last.block (hk.block _ h.last.lt (map_ne_blk h.last h.box))
 ·rw[h4];exact own_kept h.chg hk (own_ne_blk h.chg h.box (by decide))
 ·rw[h1] at hi;obtain⟨a,b⟩:=h.file i f hi hd;exact⟨a.keptB hk (blk_ne_blk a h.box (by decide)),own_kept b hk (own_ne_blk b h.box (by decide))⟩
 ·rw[h1];exact h.inF
 ·rw[h1];exact h.inj
 ·rw[h1,h2,h3,h4];exact h.live
 ·rw[h1];exact h.rows
end
theorem zero_file:∀w:World,(zeroValue 76).run Tryz.prog w=.ok (.pointer none) w:=fun w=>by kernel_rfl
set_option maxHeartbeats 400000 in
theorem none_any {w:World}{F:Nat→Prop}{d:Nat}{L:Lay}{s:Dsk}(h:DskAt w F d L s) :
  Calls Tryz.prog 44 #[.pointer (some ⟨d,0,none⟩)] w fun e w'=>e=.returned (.bool false)∧w=w':=by
 have c1:=h.box.cell 1;have eN:∀w,(binOp .eql 72 (.map (some L.gN)) (.map none)).run Tryz.prog w=.ok (.bool false) w:=fun w=>run_eql_map_nil w _ _ _ _ Tryz.underlying72
 go_enter Tryz.func44,Tryz.ntmps44
 go_wp2
 go_ret
 exact⟨rfl,rfl⟩
set_option maxHeartbeats 400000 in
theorem power_any {w:World}{F:Nat→Prop}{d:Nat}{L:Lay}{s:Dsk}(h:DskAt w F d L s) :
  Calls Tryz.prog 59 #[.pointer (some ⟨d,0,none⟩)] w fun e w'=>e=.returned (.int .i64 (if s.off then 7 else 0))∧w=w':=by
 have c4:=h.box.cell 4
 go_enter Tryz.func59,Tryz.ntmps59
 cases ho:s.off<;>rw[ho] at c4<;>clear ho
 ·go_wp2_with ((with_reducible refine (none_any h).mono ?_);rintro e w' ⟨rfl,rfl⟩)
  go_ret
  exact⟨rfl,rfl⟩
 ·go_wp2_with ((with_reducible refine (none_any h).mono ?_);rintro e w' ⟨rfl,rfl⟩)
  go_ret
  exact⟨rfl,rfl⟩
def errB (b:Bool):Int:=if b then 7 else 0
def fileV (L:Lay)(s:Dsk)(n:List UInt8):Value:=if s.off then .tuple #[.pointer none,.int .i64 7] else match getM n s.names with
 | none=>.tuple #[.pointer none,.int .i64 4]
 | some i=>.tuple #[.pointer (some ⟨L.blk i,0,none⟩),.int .i64 0]
section
variable {w:World}{F:Nat→Prop}{d:Nat}{L:Lay}{s:Dsk}
set_option maxHeartbeats 400000 in
theorem burns_any (h:DskAt w F d L s)(ok:s.Ok) :
  Calls Tryz.prog 43 #[.pointer (some ⟨d,0,none⟩)] w fun e w'=>e=.returned (.int .i64 (errB s.burn.off))∧DskAt w' F d L s.burn∧KeptBut w w' (fun k=>k=d):=by
 have c4:=h.box.cell 4;have c5:=h.box.cell 5;have f4:=h.box.frozen 4;have f5:=h.box.frozen 5;have hfu:=ok.fuse;have hdl:=h.lt
 by_cases hf:0<s.fuse
 ·have hf':(0:Int)<(s.fuse:Int):=by omega
  have hD:DskAt ((w.setCell ⟨d,5,none⟩ (.int .i64 ((s.fuse:Int)-1))).setCell ⟨d,4,none⟩ (.bool ((s.fuse:Int)-1==0))) F d L s.burn:=by
   rw[Dsk.burn_pos hf]
   refine h.rebox (((KeptBut.refl w (fun k=>k=d)).then_set rfl).then_set rfl) ?_ rfl rfl rfl rfl
   have e2:(((s.fuse-1:Nat):Nat):Int)=(s.fuse:Int)-1:=by omega
   have e3:(s.fuse-1==0)=((s.fuse:Int)-1==0):=by rw[Bool.eq_iff_iff];simp;omega
   have hb:=(h.box.set_ 5 (.int .i64 ((s.fuse:Int)-1))).set_ 4 (.bool ((s.fuse:Int)-1==0));simp only[e2,e3]
   simpa using hb
  have hK:KeptBut w ((w.setCell ⟨d,5,none⟩ (.int .i64 ((s.fuse:Int)-1))).setCell ⟨d,4,none⟩ (.bool ((s.fuse:Int)-1==0))) (fun k=>k=d)
   := ((KeptBut.refl w (fun k=>k=d)).then_set rfl).then_set rfl
  replace hK:=Lib.hid hK;have hp:=power_any hD;change Calls Tryz.prog 59 _ _ (fun e w'=>e=.returned (.int .i64 (errB s.burn.off))∧_=w') at hp;replace hp:=Lib.hid hp;replace hD:=Lib.hid hD
  go_enter Tryz.func43,Tryz.ntmps43
  go_wp2_with fail
  refine hp.out.mono ?_;rintro e w' ⟨rfl,rfl⟩;go_wp2_with fail
  go_ret
  exact⟨rfl,hD.out,hK.out⟩
 ·have hb:s.burn=s:=Dsk.burn_zero hf
  have hf':¬(0:Int)<(s.fuse:Int):=by omega
  rw[hb];have hp:=power_any h;change Calls Tryz.prog 59 _ _ (fun e w'=>e=.returned (.int .i64 (errB s.off))∧_=w') at hp;replace hp:=Lib.hid hp;replace hb:=Lib.hid hb
  go_enter Tryz.func43,Tryz.ntmps43
  go_wp2_with fail
  refine hp.out.mono ?_;rintro e w' ⟨rfl,rfl⟩;go_wp2_with fail
  go_ret
  exact⟨rfl,h,KeptBut.refl _ _⟩
set_option maxHeartbeats 400000 in
set_option maxRecDepth 100000 in
theorem file_any (h:DskAt w F d L s)(n:ByteArray)(hn:n.size≤maxLen) :
  Calls Tryz.prog 40 #[.pointer (some ⟨d,0,none⟩),.string n] w fun e w'=>e=.returned (fileV L s n.data.toList)∧w=w':=by
 have c1:=h.box.cell 1;have hl:=h.names.look_ok (t:=72) (e:=76) Tryz.underlying9 Tryz.underlying72 (zero_file w) hn;rw[mvM_get] at hl;have hp:=power_any h;replace hn:=Lib.hid hn;unfold fileV
 cases ho:s.off with
 | true =>
  rw[ho] at hp;replace ho:=Lib.hid ho
  go_enter Tryz.func40,Tryz.ntmps40
  go_wp2_with fail
  refine hp.mono ?_;rintro e w' ⟨rfl,rfl⟩;go_wp2_with fail
  go_ret2
  exact⟨rfl,rfl⟩
 | false =>
  rw[ho] at hp;replace ho:=Lib.hid ho
  cases hg:getM n.data.toList s.names with
  | none =>
   rw[hg] at hl;replace hg:=Lib.hid hg;simp only[Option.map_none,lookV] at hl
   go_enter Tryz.func40,Tryz.ntmps40
   go_wp2_with fail
   refine hp.mono ?_;rintro e w' ⟨rfl,rfl⟩;go_wp2_with fail
   go_ret2
   exact⟨rfl,rfl⟩
  | some i =>
   rw[hg] at hl;replace hg:=Lib.hid hg;simp only[Option.map_some,lookV] at hl
   go_enter Tryz.func40,Tryz.ntmps40
   go_wp2_with fail
   refine hp.mono ?_;rintro e w' ⟨rfl,rfl⟩;go_wp2_with fail
   go_ret2
   exact⟨rfl,rfl⟩
end
def chgVal (g:Nat→Nat)(c:Chg):Value:=.agg #[.string (bs c.fr),.string (bs c.toN),ptrV (c.f.map g)]
set_option maxHeartbeats 800000 in
set_option maxRecDepth 100000 in
theorem does_any (w:World)(gm:Nat)(m:NM)(g:Nat→Nat)(c:Chg)(hm:MapAt Tryz.prog 9 w gm (mvM g m))(h1:c.fr.length≤24)(h2:c.toN.length≤24)(h3:c.toN≠[]→c.f≠none)(hl:m.length<4294967296) :
  Calls Tryz.prog 61 #[chgVal g c,.map (some gm)] w fun e w'=>e=.returned (.tuple #[])∧MapAt Tryz.prog 9 w' gm (mvM g (doesC m c))∧KeptBut w w' (fun k=>k=gm):=by
 have hA:Below w.heap.size w (w.alloc (.cells #[.string (bs c.fr),.string (bs c.toN),ptrV (c.f.map g)] 85)):=(Below.refl _ _).alloc (Nat.le_refl _) _;have hm1:MapAt Tryz.prog 9 (w.alloc (.cells #[.string (bs c.fr),.string (bs c.toN),ptrV (c.f.map g)] 85)) gm (mvM g m):=hm.block (hA.block gm hm.lt);have hk1:KeptBut w (w.alloc (.cells #[.string (bs c.fr),.string (bs c.toN),ptrV (c.f.map g)] 85)) (fun k=>k=gm):=KeptBut.of_below hA
 have s1:(bs c.fr).size≤maxLen:=by rw[bs_size];unfold maxLen;omega
 have s2:(bs c.toN).size≤maxLen:=by rw[bs_size];unfold maxLen;omega
 have hlt:=hm.lt;replace hm1:=Lib.hid hm1;replace hk1:=Lib.hid hk1;replace s1:=Lib.hid s1;replace s2:=Lib.hid s2;obtain⟨fr,toN',f⟩:=c
 unfold doesC chgVal
 simp only[] at *
 by_cases e1:fr=[]
 ·subst e1
  have i1:(!(bs []).toList.isEmpty)=false:=by rw[bs_toList];rfl
  by_cases e2:toN'=[]
  ·subst e2;simp only[if_true]
   go_enter Tryz.func61,Tryz.ntmps61
   go_wp2_with fail
   go_end0
   exact⟨rfl,hm1.out,hk1.out⟩
  ·obtain⟨i,rfl⟩:=Option.ne_none_iff_exists'.1 (h3 e2)
   have i2:(!(bs toN').toList.isEmpty)=true:=by rw[bs_toList];simpa using e2
   have hl1:(mvM g m).length<maxLen:=by rw[mvM_len];unfold maxLen;omega
   rw[if_pos rfl,if_neg e2]
   simp only[Option.map_some,Option.getD_some,ptrV] at *
   replace hl1:=Lib.hid hl1;replace e2:=Lib.hid e2;clear h3
   go_enter Tryz.func61,Tryz.ntmps61
   go_wp2_with (at_mapUpdate;refine wpList_nm_store _ rfl _ _ _ 72 rfl 9 76 Tryz.underlying9 Tryz.underlying72 gm _ rfl hm1.out hl1.out (bs toN') (g i) rfl rfl s2.out ?_;intro w3 hm3 ht3)
   have hk3:=hk1.out.then_grown ht3.grown (fun k e=>(Option.some.inj e).symm)
   rw[bs_data,←mvM_put] at hm3;replace hm3:=Lib.hid hm3;replace hk3:=Lib.hid hk3;go_wp2_with fail
   go_end0
   exact⟨rfl,hm3.out,hk3.out⟩
 ·have i1:(!(bs fr).toList.isEmpty)=true:=by rw[bs_toList];simpa using e1
  by_cases e2:toN'=[]
  ·subst e2
   have i2:(!(bs []).toList.isEmpty)=false:=by rw[bs_toList];rfl
   rw[if_neg e1,if_pos rfl];replace e1:=Lib.hid e1;clear h3
   go_enter Tryz.func61,Tryz.ntmps61
   go_wp2_with (at_delete;refine wpList_nm_delete _ rfl _ _ 72 9 rfl 76 Tryz.underlying9 Tryz.underlying72 gm _ rfl hm1.out (bs fr) rfl s1.out ?_;intro w1 hm2 ht2;have qc:=fun o=>World.cell?_of_block (a:=(⟨w.heap.size,o,none⟩:Addr)) (ht2.grown.block w.heap.size (by simp) (by simp;omega)))
   have hk2:=hk1.out.then_grown ht2.grown (fun k e=>(Option.some.inj e).symm)
   rw[bs_data,←mvM_del] at hm2;replace hm2:=Lib.hid hm2;replace hk2:=Lib.hid hk2;go_wp2_with fail
   go_end0
   exact⟨rfl,hm2.out,hk2.out⟩
  ·obtain⟨i,rfl⟩:=Option.ne_none_iff_exists'.1 (h3 e2)
   have i2:(!(bs toN').toList.isEmpty)=true:=by rw[bs_toList];simpa using e2
   rw[if_neg e1,if_neg e2]
   simp only[Option.map_some,Option.getD_some,ptrV] at *
   replace e1:=Lib.hid e1;replace e2:=Lib.hid e2;clear h3
   have hl2:(mvM g (delM fr m)).length<maxLen:=by rw[mvM_len];have:=delM_len fr m;unfold maxLen;omega
   replace hl2:=Lib.hid hl2
   go_enter Tryz.func61,Tryz.ntmps61
   go_wp2_with (first | (at_delete;refine wpList_nm_delete _ rfl _ _ 72 9 rfl 76 Tryz.underlying9 Tryz.underlying72 gm _ rfl hm1.out (bs fr) rfl s1.out ?_;intro w1 hm2 ht2;have qc:=fun o=>World.cell?_of_block (a:=(⟨w.heap.size,o,none⟩:Addr)) (ht2.grown.block w.heap.size (by simp) (by simp;omega));rw[bs_data,←mvM_del] at hm2;replace hm2:=Lib.hid hm2) | (at_mapUpdate;refine wpList_nm_store _ rfl _ _ _ 72 rfl 9 76 Tryz.underlying9 Tryz.underlying72 gm _ rfl hm2.out hl2.out (bs toN') (g i) rfl rfl s2.out ?_;intro w3 hm3 ht3))
   have hk2:=hk1.out.then_grown ht2.grown (fun k e=>(Option.some.inj e).symm)
   have hk3:=hk2.then_grown ht3.grown (fun k e=>(Option.some.inj e).symm)
   rw[bs_data,←mvM_put] at hm3
   go_end0
   exact⟨rfl,hm3,hk3⟩
def DFx (F:Nat→Prop)(w w':World):Nat→Prop:=fun k=>F k∨(w.heap.size≤k∧k<w'.heap.size)
structure Went (w w':World)(F:Nat→Prop)(d:Nat)(s':Dsk):Prop where
 kept:KeptBut w w' F
 at_:∃L',DskAt w' (DFx F w w') d L' s'
section
variable {w w':World}{F:Nat→Prop}{d:Nat}{L:Lay}{s:Dsk}
theorem own_ne_map {P:Program}{k g B e size n:Nat}{v:Value}{xs:List Value}{m:NM}(h:w.ownsRow B e size v n xs)(hm:MapAt P k w g m):∀j,v.ownBlock=some j→j≠g:=by
 rintro j hj rfl;rcases h.2 with⟨rfl,_⟩ | ⟨g',cap,cur,rfl,_,hh,_⟩
 ·cases hj
 ·simp only[Value.ownBlock,Option.some.injEq] at hj;subst hj;obtain⟨es,clock,h1,_⟩:=hm;rw[h1] at hh;cases hh
theorem own_ne_own {B e size n B' e' size' n':Nat}{v v':Value}{xs xs':List Value}(h:w.ownsRow B e size v n xs)(h':w.ownsRow B' e' size' v' n' xs')(he:e≠e'):∀j,v.ownBlock=some j→v'.ownBlock≠some j:=by
 intro j hj hj';rcases h'.2 with⟨rfl,_⟩ | ⟨g',cap,cur,rfl,_,hh,_⟩
 ·cases hj'
 ·simp only[Value.ownBlock,Option.some.injEq] at hj';subst hj';exact own_ne_blk h (show Blk w _ _ _ from hh) he _ hj rfl
theorem DskAt.renames (h:DskAt w F d L s)(hk:KeptBut w w' (fun k=>k=L.gN)){m:NM}(hm:MapAt Tryz.prog 9 w' L.gN (mvM L.blk m))(hlv:∀p∈m,¬L.dead p.2):DskAt w' F d L { s with names:=m }:=by
 refine⟨h.box.keptB hk (fun e=>map_ne_blk h.names h.box e.symm),hm,h.last.block (hk.block _ h.last.lt (fun e=>h.ne e.symm)),own_kept h.chg hk (fun k e=>own_ne_map h.chg h.names k e),fun i f hi hd=>?_,h.inF,h.ne,h.inj,⟨hlv,h.live.2⟩,h.rows⟩;obtain⟨a,b⟩:=h.file i f hi hd;exact⟨a.keptB hk (fun e=>map_ne_blk h.names a e.symm),own_kept b hk (fun k e=>own_ne_map b h.names k e)⟩
theorem chgV_snoc (g:Nat→Nat)(l:List Chg)(c:Chg):chgV g (l++[c])=chgV g l++[.string (bs c.fr),.string (bs c.toN),ptrV (c.f.map g)]:=by simp[chgV]
theorem DskAt.rechg (h:DskAt w F d L s){ob:Obj}{w2:World}{v2:Value}{c:Chg}
  (hown:w2.ownsRow 0 85 3 v2 (s.chg.length+1) (chgV L.blk s.chg++[.string (bs c.fr),.string (bs c.toN),ptrV (c.f.map L.blk)])) (hg:(w.alloc ob).grownBy w2 L.vC.ownBlock)
  (hat:v2.ownBlock=L.vC.ownBlock∨v2.ownBlock=some (w.heap.size+1)) (hlv:∀i,c.f=some i→¬L.dead i) :
  DskAt (w2.setCell ⟨d,3,none⟩ v2) (DFx F w w2) d { L with vC:=v2 } { s with chg:=s.chg++[c] }∧KeptBut w (w2.setCell ⟨d,3,none⟩ v2) F∧w2.cell? ⟨d,3,none⟩=some L.vC∧w2.frozen? ⟨d,3,none⟩=false∧∃A n c,v2=.slice A n c:=by
 obtain⟨f1,f2,f3,f4,f5⟩:=h.inF;have hdl:=h.lt
 have hk2:KeptBut w w2 (fun k=>L.vC.ownBlock=some k):=(KeptBut.of_below ((Below.refl _ _).alloc (Nat.le_refl _) ob)).then_grown hg (fun k e=>e)
 have hbox2:=h.box.keptB hk2 (fun e=>own_ne_blk h.chg h.box (by decide) _ e rfl)
 have hne:∀k,v2.ownBlock=some k→k≠d:=by
  intro k hk;rcases hat with e | e
  ·rw[e] at hk;exact own_ne_blk h.chg h.box (by decide) _ hk
  ·rw[e] at hk;injection hk with hk;omega
 have hkB:KeptBut w (w2.setCell ⟨d,3,none⟩ v2) (fun k=>L.vC.ownBlock=some k∨k=d):=(hk2.mono (fun k _ e=>.inl e)).then_set (.inr rfl)
 have hs2:=hk2.size
 refine⟨⟨?_,?_,?_,?_,fun i f hi hd=>?_,?_,h.ne,h.inj,⟨h.live.1,h.live.2.1,(fun x hx i hi=>by
  rcases List.mem_append.1 hx with h1 | h1
  ·exact h.live.2.2.1 x h1 i hi
  ·rw[List.mem_singleton.1 h1] at hi;exact hlv i hi),h.live.2.2.2⟩,h.rows⟩,hkB.mono (fun k _ e=>e.elim (f4 k) (fun e=>e ▸ f1)),?_,?_,?_⟩
 ·simpa using hbox2.set_ 3 v2
 ·exact h.names.block (hkB.block _ h.names.lt (fun e=>e.elim (fun e=>own_ne_map h.chg h.names _ e rfl) (map_ne_blk h.names h.box)))
 ·exact h.last.block (hkB.block _ h.last.lt (fun e=>e.elim (fun e=>own_ne_map h.chg h.last _ e rfl) (map_ne_blk h.last h.box)))
 ·rw[chgV_snoc];simp only[List.length_append,List.length_singleton];exact own_block hown fun k hk=>Below.heap_setCell _ _ _ _ (hne k hk)
 ·obtain⟨a,b⟩:=h.file i f hi hd;exact⟨a.keptB hkB (fun e=>e.elim (fun e=>own_ne_blk h.chg a (by decide) _ e rfl) (blk_ne_blk a h.box (by decide))),own_kept b hkB (fun k hk e=>e.elim (fun e=>own_ne_own b h.chg (by decide) k hk e) (own_ne_blk b h.box (by decide) k hk))⟩
 ·refine⟨.inl f1,.inl f2,.inl f3,fun k hk=>?_,fun i hi hd=>⟨.inl (f5 i hi hd).1,fun k e=>.inl ((f5 i hi hd).2 k e)⟩⟩;rcases hat with e | e
  ·simp only[e] at hk;exact .inl (f4 k hk)
  ·have h1:=(own_lt hown k hk).2;simp only[e] at hk;injection hk with hk;exact .inr ⟨by omega,h1⟩
 ·simpa using hbox2.cell 3
 ·exact hbox2.frozen 3
 ·rcases hown.2 with⟨hv,_⟩ | ⟨g,cap,cur,hv,_⟩
  ·exact⟨_,_,_,hv⟩
  ·exact⟨_,_,_,hv⟩
theorem chg_info:(Tryz.prog.info? 85).map (fun i=>(i.zero,i.size,i.bytes))=some (some (.agg #[.string ⟨#[]⟩,.string ⟨#[]⟩,.pointer none]),3,40):=by kernel_rfl
theorem reads3' (w:World)(t:TypeId)(x y z:Value):Reads (w.alloc (.cells #[x,y,z] t)) (w.heap.size+1) 3 (some ⟨w.heap.size,0,none⟩) 1 [x,y,z] :=
 ⟨rfl,fun _=>⟨_,rfl,by simp,fun j u hu=>by
  have hj:j<3:=(List.getElem?_eq_some_iff.1 hu).1
  match j,hj with
  | 0,_=>simp at hu;subst hu;simp[Addr.add]
  | 1,_=>simp at hu;subst hu;simp[Addr.add]
  | 2,_=>simp at hu;subst hu;simp[Addr.add]⟩⟩
end
theorem Went.of {w w':World}{F:Nat→Prop}{d:Nat}{L:Lay}{s:Dsk}(hk:KeptBut w w' F)(h:DskAt w' F d L s):Went w w' F d s:=⟨hk,L,h.more (fun _=>.inl)⟩
set_option maxRecDepth 100000 in
set_option maxHeartbeats 2000000 in
theorem changed_any {w:World}{F:Nat→Prop}{d:Nat}{L:Lay}{s:Dsk}(h:DskAt w F d L s)(ok:s.Ok)(c:Chg)(h1:c.fr.length≤24)(h2:c.toN.length≤24)(h3:c.toN≠[]→c.f≠none)(hlv:∀i,c.f=some i→¬L.dead i)(hn:s.names.length<1073741824)(hl:s.chg.length<1073741824) :
  Calls Tryz.prog 42 #[.pointer (some ⟨d,0,none⟩),chgVal L.blk c] w fun e w'=>e=.returned (.int .i64 (errB s.burn.off))∧Went w w' F d (s.changed c).1:=by
 obtain⟨i0,hi0,hz0,hz1,hz2⟩:=info_parts chg_info;have hA:Below w.heap.size w (w.alloc (.cells #[.string (bs c.fr),.string (bs c.toN),ptrV (c.f.map L.blk)] 85)):=(Below.refl _ _).alloc (Nat.le_refl _) _;have hX:Blk (w.alloc (.cells #[.string (bs c.fr),.string (bs c.toN),ptrV (c.f.map L.blk)] 85)) w.heap.size 85 #[.string (bs c.fr),.string (bs c.toN),ptrV (c.f.map L.blk)]:=Blk.new _ _ _;have hD:=h.below hA;have hF:=h.inF;have hdl:=h.lt;have hgl:=h.names.lt;have hbn:=burns_any hD ok;obtain⟨e1,e2,e3,e4,e5,e6⟩:=@Dsk.burn_same s;have hd0:=h3;replace h3:=Lib.hid h3;replace hlv:=Lib.hid hlv;replace hd0:=Lib.hid hd0
 generalize hv:ptrV (c.f.map L.blk)=pv at *
 replace hv:=Lib.hid hv;unfold chgVal;rw[hv.out];unfold Dsk.changed;rw[←e4] at hl;rw[←e2] at hn;clear e1 e2 e3 e4 e5 e6
 cases ho:s.burn.off with
 | true =>
  rw[ho] at hbn;replace ho:=Lib.hid ho;rw[if_pos rfl]
  simp only[errB,if_true] at *
  go_enter Tryz.func42,Tryz.ntmps42
  go_wp2_with fail
  refine hbn.mono ?_;rintro e w1 ⟨rfl,hD1,hk1⟩;replace hk1:=Lib.hid (((KeptBut.of_below hA (S:=F)).trans hk1 (fun k _ e=>e ▸ hF.1)));go_wp2_with fail
  go_ret
  exact⟨rfl,.of hk1.out hD1⟩
 | false =>
  rw[ho] at hbn;replace ho:=Lib.hid ho;rw[if_neg (by decide)]
  simp only[errB] at *
  go_enter Tryz.func42,Tryz.ntmps42
  go_wp2_with fail
  refine hbn.mono ?_;rintro e w1 ⟨rfl,hD1,hk1⟩;have hX1:=hX.keptB hk1 (by omega);have hK1:=(KeptBut.of_below hA (S:=F)).trans hk1 (fun k _ e=>e ▸ hF.1);have x0:=hX1.cell 0;have x1:=hX1.cell 1;have x2:=hX1.cell 2;have b1:=hD1.box.cell 1;have hl1:=hX1.lt;have hdl1:=hD1.lt;replace hK1:=Lib.hid hK1;clear hk1;go_wp2_with fail
  have hxc:=@Ext.cell;have hxf:=@Ext.frozen;refine wp_hide (fun Q0 hQ0=>?_);refine wp_region_line (fun w'=>∃x:Ext _,w'=x.w) [some false,some false,some false,some false,some false,none] 0 (by kernel_rfl) (by kernel_rfl) ⟨⟨_,(Below.refl _ _).drew⟩,rfl⟩ ?_;simp only[earlyL,tailL]
  repeat (first | ((with_reducible refine wpMix_p ?_);go_big_quiet_step (fail);refine wpQuiet_nil ?_) | ((with_reducible refine wpMix_e ?_);go_big_quiet_step ((first | fail));refine wpQuiet_nil ?_))
  refine wpMix_nil ?_;clear hxc hxf;intro wx hwx;obtain⟨x,hx⟩:=hwx;have hb:=x.below;rw[←hx] at hb;clear hx x;have hD2:=hD1.below hb;have hX2:=hX1.below hb hl1
  have hK2:=hK1.out.then_below hb
  have hcall:=does_any wx L.gN s.burn.names L.blk c hD2.names h1 h2 hd0.out (by omega)
  unfold chgVal at hcall;rw[hv.out] at hcall;clear x0 x1 x2 b1 hb;replace hcall:=Lib.hid hcall;refine wpTail_step ?_;intro Q1 hQ1;go_wp2_with fail
  refine hcall.out.mono ?_;rintro e w3 ⟨rfl,hm3,hk3⟩
  have hD3:=hD2.renames hk3 hm3 (fun p hp=>by
   rcases doesC_mem hp with h1 | ⟨h1,rfl⟩
   ·exact hD2.live.1 p h1
   ·obtain⟨i',hi'⟩:=Option.ne_none_iff_exists'.1 (hd0.out h1);simp only[hi',Option.getD_some]
    exact hlv.out i' hi')
  have hX3:=hX2.keptB hk3 (fun e=>by have e':w.heap.size=L.gN:=e;omega);have hK3:=hK2.trans hk3 (fun k _ e=>e ▸ hF.2.1);replace hK3:=Lib.hid hK3;clear hk3 hm3 hK2 hK1;go_wp2_with fail
  refine hQ1 _ _ rfl (fun h=>absurd h (by decide)) ?_;clear hQ1 Q1 hcall;refine wpTail_nil ?_;refine hQ0 _ _ ?_;clear hQ0 Q0;have b3:=hD3.box.cell 3;have y0:=hX3.cell 0;have y1:=hX3.cell 1;have y2:=hX3.cell 2;have hl3:=hX3.lt;have hdl3:=hD3.lt;go_wp2_with fail
  have hxc:=@Ext.cell;have hxf:=@Ext.frozen;refine wp_hide (fun Q0 hQ0=>?_);refine wp_region_line (fun w'=>∃x:Ext _,w'=x.w) [some true,some false,some false,some false,some false,some false,none,none,none,none,none] 1 (by kernel_rfl) (by kernel_rfl) ⟨⟨_,(Below.refl _ _).drew⟩,rfl⟩ ?_;simp only[earlyL,tailL]
  repeat (first | ((with_reducible refine wpMix_p ?_);go_big_quiet_step (fail);refine wpQuiet_nil ?_) | ((with_reducible refine wpMix_e ?_);go_big_quiet_step ((first | fail));refine wpQuiet_nil ?_))
  refine wpMix_nil ?_;clear hxc hxf;intro wx hwx;obtain⟨x,hx⟩:=hwx;have hb:=x.below;rw[←hx] at hb;clear hx x;have hbs:=hb.size;have hD4:=hD3.below hb
  have hK4:=hK3.out.then_below hb
  have hown:=hD4.chg;have hownx:=World.ownsRow.alloc hown (.cells #[.string (bs c.fr),.string (bs c.toN),pv] 85);have hrd:=reads3' wx 85 (.string (bs c.fr)) (.string (bs c.toN)) pv
  have hpv:∀u∈[Value.string (bs c.fr),.string (bs c.toN),pv],u.oneCell'=true:=by
   intro u hu;simp at hu;rcases hu with rfl | rfl | rfl
   ·rfl
   ·rfl
   ·rw[←hv.out];cases c.f.map L.blk<;>rfl
  clear b3 y0 y1 y2 hX3 hX2 hX1;replace hK4:=Lib.hid hK4;replace hpv:=Lib.hid hpv;replace hD4:=Lib.hid hD4;clear hown;refine wpTail_step ?_;intro Q1 hQ1;go_wp2_with fail
  refine hQ1 _ _ rfl (fun _=>⟨⟨_,hb.alloc hbs _⟩,rfl⟩) ?_;clear hQ1 Q1;refine wpTail_step ?_;intro Q1 hQ1
  go_wp2_with (at_builtin;refine wpList_append_any _ rfl (.tmp 21) (.tmp 23) 73 rfl 0 85 i0 (.agg #[.string ⟨#[]⟩,.string ⟨#[]⟩,.pointer none]) 3 40 Tryz.underlying73 hi0 hz0 hz1 hz2 rfl (by omega) L.vC s.burn.chg.length (chgV L.blk s.burn.chg) rfl hownx (wx.heap.size+1) (some ⟨wx.heap.size,0,none⟩) 1 1 [.string (bs c.fr),.string (bs c.toN),pv] rfl hrd hpv.out (by unfold maxLen;omega) (by omega) (by simp) ?_;intro v2 w2b hown2 hgr2 hat2)
  refine hQ1 _ _ rfl (fun h=>absurd h (by decide)) ?_;clear hQ1 Q1;rw[←hv.out] at hown2;obtain⟨hD5,hk5,c5,f5,A7,n7,cp7,h7⟩:=hD4.out.rechg (c:=c) hown2 hgr2 (by simpa using hat2) hlv.out;subst h7;have hK5:=hK4.out.trans hk5 (fun k _ e=>e);replace hD5:=Lib.hid hD5;replace hK5:=Lib.hid hK5;clear hown2 hgr2 hat2 hownx hrd hk5;refine wpTail_step ?_;intro Q1 hQ1
  go_wp2_with (fail)
  refine hQ1 _ _ rfl (fun h=>absurd h (by decide)) ?_;clear hQ1 Q1;refine wpTail_step ?_;intro Q1 hQ1
  go_wp2_with (fail)
  refine hQ1 _ _ rfl (fun h=>absurd h (by decide)) ?_;clear hQ1 Q1;refine wpTail_step ?_;intro Q1 hQ1
  go_wp2_with (fail)
  refine hQ1 _ _ rfl (fun h=>absurd h (by decide)) ?_;clear hQ1 Q1;refine wpTail_nil ?_;refine hQ0 _ _ ?_;clear hQ0 Q0;go_wp2_with fail
  go_ret
  have hs3:=hK3.out.size;have hs5:=hK4.out.size;exact⟨rfl,hK5.out,_,hD5.out.more (fun k hk=>hk.elim .inl (fun e=>.inr ⟨by omega,by simpa[World.setCell] using e.2⟩))⟩
set_option maxRecDepth 100000 in
set_option maxHeartbeats 2000000 in
theorem right1_any (c:UInt8)(w:World) :
  Calls Tryz.prog 68 #[B8 c] w fun e w'=>e=.returned (.bool (!okB c))∧w=w':=by
 have hc:=c.toNat_lt
 have e:okB c=!((decide (c.toNat<97)||decide (122<c.toNat))&&(decide (c.toNat<48)||decide (57<c.toNat))&&!(c.toNat==46)&&!(c.toNat==45)):=by
  unfold okB;have h1:(c<97)=(c.toNat<97):=rfl;have h2:(122<c)=(122<c.toNat):=rfl;have h3:(c<48)=(c.toNat<48):=rfl;have h4:(57<c)=(57<c.toNat):=rfl
  have h5:(c != 46)=!(c.toNat==46):=by
   rw[bne,Bool.eq_iff_iff];simp[←UInt8.toNat_inj]
  have h6:(c != 45)=!(c.toNat==45):=by
   rw[bne,Bool.eq_iff_iff];simp[←UInt8.toNat_inj]
  rw[h5,h6];simp only[h1,h2,h3,h4]
 rw[e];clear e;unfold B8
 generalize c.toNat=n at *
 go_enter Tryz.func68,Tryz.ntmps68
 go_wp2
 all_goals go_ret
 all_goals refine⟨congrArg (fun b=>Ending.returned (Value.bool b)) ?_,rfl⟩
 all_goals rw[Bool.eq_iff_iff]
 all_goals simp
 all_goals omega
set_option maxRecDepth 100000 in
set_option maxHeartbeats 2000000 in
theorem dbad_any (g cap:Nat)(l:List UInt8)(w:World)(hc:∀j,j<l.length→w.cell? ⟨g,j,none⟩=some (B8 (l.getD j 0)))(hl:l.length≤1073741824) :
  Calls Tryz.prog 102 #[.slice (some ⟨g,0,none⟩) l.length cap,.func (.func 68) #[] #[]] w fun e w'=>∃r:Int,e=.returned (.int .i64 r)∧(r<0↔l.all okB=true)∧w=w':=by
 replace hc:=Lib.hid hc
 go_enter Tryz.func102,Tryz.ntmps102
 go_wp2_with fail
 go_loop [8] (fun i=>∃k:Nat,k≤l.length∧i=.int .i64 k∧(l.take k).all okB=true) (fun i=>l.length-(intOf i).toNat)
 case atStart=>exact⟨0,Nat.zero_le _,rfl,by simp⟩
 case round =>
  obtain⟨k,hk,rfl,hall⟩:=hrel
  by_cases hlt:k<l.length
  ·have hck:=hc.out k hlt
   have hcx:l.getD k 0=l[k]:=by simp[hlt]
   rw[hcx] at hck
   have hts:(l.take (k+1)).all okB=((l.take k).all okB&&okB l[k]):=by rw[List.take_succ_eq_append_getElem hlt,List.all_append];simp
   have hr1:=right1_any l[k]
   have hno:okB l[k]=false→l.all okB=false:=by
    intro h;rw[List.all_eq_false];exact⟨l[k],List.getElem_mem hlt,by simpa using h⟩
   generalize l[k]=c at *
   clear hcx;replace hno:=Lib.hid hno;replace hts:=Lib.hid hts;replace hall:=Lib.hid hall
   cases ho:okB c with
   | true =>
    rw[ho] at hr1;replace ho:=Lib.hid ho;replace hr1:=Lib.hid hr1
    go_wp2_with (go_at_call 68;refine (hr1.out _).mono ?_;rintro e w' ⟨rfl,rfl⟩)
    go_round
    case rel=>exact⟨k+1,by omega,by go_num,by rw[hts.out,hall.out,ho.out];rfl⟩
    case measure=>simp[intOf];omega
   | false =>
    rw[ho] at hr1;replace hr1:=Lib.hid hr1;replace ho:=Lib.hid ho
    go_wp2_with (go_at_call 68;refine (hr1.out _).mono ?_;rintro e w' ⟨rfl,rfl⟩)
    go_ret
    exact⟨k,rfl,by rw[hno.out ho.out];simp,rfl⟩
  ·obtain rfl:k=l.length:=by omega
   replace hall:=Lib.hid hall
   go_wp2
   go_ret
   exact⟨-1,rfl,by have:=hall.out;simp at this;simp;exact this,rfl⟩
theorem contains_any (g cap:Nat)(l:List UInt8)(w:World)(hc:∀j,j<l.length→w.cell? ⟨g,j,none⟩=some (B8 (l.getD j 0)))(hl:l.length≤1073741824) :
  Calls Tryz.prog 67 #[.slice (some ⟨g,0,none⟩) l.length cap,.func (.func 68) #[] #[]] w fun e w'=>e=.returned (.bool (!l.all okB))∧w=w':=by
 have hb:=dbad_any g cap l w hc hl;replace hb:=Lib.hid hb;clear hc hl
 go_enter Tryz.func67,Tryz.ntmps67
 go_wp2_with fail
 refine hb.out.mono ?_;rintro e w' ⟨r,rfl,hr,rfl⟩;replace hr:=Lib.hid hr;go_wp2_with fail
 go_ret
 refine⟨congrArg (fun b=>Ending.returned (Value.bool b)) ?_,rfl⟩;rw[Bool.eq_iff_iff];have:=hr.out;cases hq:l.all okB
 ·rw[hq] at this
  have h2:¬r<0:=fun h=>by have:=this.1 h;cases this
  simp;omega
 ·have h2:=this.2 hq
  simp;omega
set_option maxRecDepth 100000 in
set_option maxHeartbeats 2000000 in
theorem right_any (s:ByteArray)(w:World):Calls Tryz.prog 41 #[.string s] w fun e w'=>e=.returned (.bool (rightB s.data.toList))∧Below w.heap.size w w':=by
 have hsz:s.data.toList.length=s.size:=rfl
 by_cases h0:s.data.toList=[]
 ·have hr:rightB s.data.toList=false:=by unfold rightB;rw[h0];rfl
  have i1:(!s.toList.isEmpty)=false:=by rw[ByteArray.toList_eq,h0];rfl
  rw[hr];clear hsz;replace h0:=Lib.hid h0;replace hr:=Lib.hid hr
  go_enter Tryz.func41,Tryz.ntmps41
  go_wp2
  go_ret
  exact⟨rfl,Below.refl _ _⟩
 ·have i1:(!s.toList.isEmpty)=true:=by rw[ByteArray.toList_eq];simpa using h0
  by_cases h1:s.size≤24
  ·have hr:rightB s.data.toList=s.data.toList.all okB:=by unfold rightB;rw[hsz,show s.data.toList.isEmpty=false from by simpa using h0,decide_eq_true h1];rfl
   have h1':(s.size:Int)≤24:=by omega
   obtain⟨cap,W2,hrun,hbW,hzW,hcells⟩:=conv_bytes w s;have hcon:=contains_any w.heap.size cap s.data.toList W2 (fun j hj=>hcells j (by omega)) (by omega);rw[hsz] at hcon;rw[hr];clear hsz;replace h0:=Lib.hid h0;replace hr:=Lib.hid hr;replace hcon:=Lib.hid hcon;clear hcells hzW
   go_enter Tryz.func41,Tryz.ntmps41
   go_wp2_with fail
   refine hcon.out.mono ?_;rintro e w' ⟨rfl,rfl⟩;go_wp2_with fail
   go_ret
   exact⟨by simp,hbW⟩
  ·have hr:rightB s.data.toList=false:=by unfold rightB;rw[hsz];simp[h1]
   have h1':¬(s.size:Int)≤24:=by omega
   rw[hr];clear hsz;replace h0:=Lib.hid h0;replace hr:=Lib.hid hr
   go_enter Tryz.func41,Tryz.ntmps41
   go_wp2
   go_ret
   exact⟨rfl,Below.refl _ _⟩
end Go.Proofs.YtlpojfgeocpkeaaGreatDoor
