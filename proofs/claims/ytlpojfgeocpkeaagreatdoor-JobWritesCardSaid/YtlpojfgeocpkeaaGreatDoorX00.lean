/- Words for memory, after the guide's page of lemmas to copy (extra-words): a slice that reads as a list; a block known whole; append whatever the source. A string's bytes in a new block. A region that draws its order, whatever its operations do: each operation leaves a value of its own kind, and keeps the others'. A region that draws its order, whose operations load from old blocks and whose callees leave old memory as it was: one walk, in the order of the text, serves every order. The class of worlds: those that have grown out of the one at hand. -/
import Derived.Test.YtlpojfgeocpkeaaGreatDoorRows
import Derived.WalkKit
import Derived.Below
import Derived.Laws.OwnMore
import Derived.Deep.AppendLies
import Derived.Deep.Draws
import Derived.Laws.Rows
import Derived.Maps.AppendAt
import Derived.RegionTactic
import Derived.OwnWalk
import Derived.Laws.BytesArg
import Derived.Lib.ConvBytes
import Derived.Orders
import Derived.WalkLawsBesides
import Derived.WalkSpells
import Derived.Outline
import Derived.BigQuiet
import Derived.Deep.QuietTactic
namespace Go.Proofs.YtlpojfgeocpkeaaGreatDoor
open Go.RowKit
set_option linter.unusedVariables false
set_option linter.unusedSimpArgs false
theorem block_of_add (a:Addr)(n:Nat):(a.add n).block=a.block:=by unfold Addr.add;split<;>rfl
def Reads (w:World)(B size:Nat)(A:Option Addr)(n:Nat)(xs:List Value):Prop :=
 xs.length=n*size∧(0<n→∃ad,A=some ad∧ad.block<B∧∀j u,xs[j]? = some u→w.cell? (ad.add j)=some u)
section
variable {w w':World}{B B' size n:Nat}{A:Option Addr}{xs:List Value}
theorem Reads.none_:Reads w B size A 0 []:=⟨by simp,fun h=>absurd h (by omega)⟩
theorem Reads.at_ {k:Nat}(h:Reads w B 1 A n xs)(hk:k<n):∃ad u,A=some ad∧ad.block<B∧xs[k]? = some u∧w.cell? (ad.add k)=some u:=by
 obtain⟨ad,e,hb,hc⟩:=h.2 (by omega)
 have hl:k<xs.length:=by have:=h.1;omega
 exact⟨ad,xs[k],e,hb,List.getElem?_eq_getElem hl,hc k _ (List.getElem?_eq_getElem hl)⟩
theorem Reads.keep (h:Reads w B size A n xs)(hk:∀p:Addr,p.block<B→w'.cell? p=w.cell? p):Reads w' B size A n xs :=
 ⟨h.1,fun hn=>by
  obtain⟨ad,e,hb,hc⟩:=h.2 hn
  exact⟨ad,e,hb,fun j u hu=>(hk _ (by rw[block_of_add];exact hb)).trans (hc j u hu)⟩⟩
theorem Reads.more (h:Reads w B size A n xs)(hB:B≤B'):Reads w B' size A n xs :=
 ⟨h.1,fun hn=>by
  obtain⟨ad,e,hb,hc⟩:=h.2 hn
  exact⟨ad,e,by omega,hc⟩⟩
theorem Reads.below (h:Reads w B size A n xs)(hb:Below B w w'):Reads w' B size A n xs:=h.keep fun _ hp=>hb.cell hp
theorem Reads.alloc (h:Reads w B size A n xs)(hB:B≤w.heap.size)(o:Obj):Reads (w.alloc o) B size A n xs:=h.keep fun p hp=>World.cell?_alloc_lt w o p (by omega)
theorem Reads.of_own {base:Nat}{e:TypeId}{c:Nat}(h:w.ownsRow base e size (.slice A n c) n xs):Reads w w.heap.size size A n xs:=by
 refine⟨h.1,fun hn=>?_⟩;obtain⟨g,cap,hv,_,hlt⟩:=h.form hn
 have hA:A=some ⟨g,0,none⟩:=by injection hv
 subst hA;exact⟨_,rfl,hlt,h.cells (g:=g) rfl⟩
end
def Blk (w:World)(g:Nat)(t:TypeId)(cs:Array Value):Prop:=w.heap[g]? = some (.cells cs t (0,0))
section
variable {w w':World}{g:Nat}{t:TypeId}{cs:Array Value}
theorem Blk.lt (h:Blk w g t cs):g<w.heap.size:=by
 rcases Nat.lt_or_ge g w.heap.size with hlt | hge
 ·exact hlt
 ·unfold Blk at h;rw[Array.getElem?_eq_none hge] at h;cases h
theorem Blk.cell (h:Blk w g t cs)(i:Nat):w.cell? ⟨g,i,none⟩=cs[i]? := cell_of_row w g i cs t (0,0) h
theorem Blk.frozen (h:Blk w g t cs)(i:Nat):w.frozen? ⟨g,i,none⟩=false:=by
 unfold Blk at h;simp[World.frozen?,h]
theorem Blk.new (w:World)(t:TypeId)(cs:Array Value):Blk (w.alloc (.cells cs t)) w.heap.size t cs:=heap_alloc_new w _
theorem Blk.alloc (h:Blk w g t cs)(o:Obj):Blk (w.alloc o) g t cs:=(Below.heap_alloc w o g h.lt).trans h
theorem Blk.set_ (h:Blk w g t cs)(i:Nat)(u:Value):Blk (w.setCell ⟨g,i,none⟩ u) g t (cs.setIfInBounds i u):=by
 unfold Blk at h ⊢;simp[World.setCell,Array.getElem?_modify,h]
theorem Blk.far (h:Blk w g t cs){p:Addr}(hp:g≠p.block)(u:Value):Blk (w.setCell p u) g t cs:=(Below.heap_setCell w p u g hp).trans h
theorem Blk.below {B:Nat}(h:Blk w g t cs)(hb:Below B w w')(hg:g<B):Blk w' g t cs:=(hb.block g hg).trans h
theorem Blk.grown {row:Option Nat}(h:Blk w g t cs)(hb:w.grownBy w' row)(hg:some g≠row):Blk w' g t cs:=(hb.block g h.lt hg).trans h
theorem Blk.ne_ {g':Nat}{t':TypeId}{cs':Array Value}(h:Blk w g t cs)(h':Blk w g' t' cs')(hne:t≠t'):g≠g':=by
 rintro rfl;unfold Blk at h h';rw[h] at h';injection h' with h';injection h' with _ ht;exact hne ht
theorem own_blk_ne {base:Nat}{e:TypeId}{size n:Nat}{v:Value}{xs:List Value}(h:w.ownsRow base e size v n xs)(hg:Blk w g t cs)(hne:e≠t):v.ownBlock≠some g:=by
 rcases h.2 with⟨rfl,_⟩ | ⟨g',cap,cur,rfl,_,hh,_⟩
 ·simp[Value.ownBlock]
 ·intro he
  have:g'=g:=by simpa[Value.ownBlock] using he
  subst this;exact Blk.ne_ (t:=e) hh hg hne rfl
end
section
variable {P:Program}(w:World)
theorem run_append_of_nil (base:Nat)(t ty e:TypeId)(i:TypeInfo)(size:Nat)(ht:P.underlying t=some (.slice e))(hi:P.info? e=some i)
  (v:Value) (n:Nat) (xs:List Value) (hown:w.ownsRow base e size v n xs) (c:Nat):(Builtin.append_ #[t,t] ty #[v,.slice none 0 c]).run P w=.ok v w:=by
 rcases hown.2 with⟨rfl,rfl⟩ | ⟨g,cap,cur,rfl,_,_,hnc,_⟩
 ·simp[Builtin.append_,run_underlying ht,sizeOf,typeInfo,hi,Builtin.lenOf,Builtin.firstCells]
 ·simp[Builtin.append_,run_underlying ht,sizeOf,typeInfo,hi,Builtin.lenOf,Builtin.firstCells,hnc,storeCells]
theorem run_append_any (base:Nat)(t ty e:TypeId)(i:TypeInfo)(z:Value)(size bytes:Nat)(ht:P.underlying t=some (.slice e))(hi:P.info? e=some i)(hz:i.zero=some z)
  (hsize:i.size=size) (hby:i.bytes=bytes) (hzs:z.cells.size=size) (hsz:0<size)
  (v:Value) (n:Nat) (xs:List Value) (hown:w.ownsRow base e size v n xs)
  (B:Nat) (A:Option Addr) (m c:Nat) (news:List Value) (hr:Reads w B size A m news) (h1:∀u∈news,u.oneCell'=true)
  (h63:n+m≤maxLen) (hbytes:(n+m)*bytes≤140737488355328) (hbase:base≤w.heap.size) :
  ∃v' w',(Builtin.append_ #[t,t] ty #[v,.slice A m c]).run P w=.ok v' w'∧w'.ownsRow base e size v' (n+m) (xs++news)∧w.grownBy w' v.ownBlock ∧
   (v'.ownBlock=v.ownBlock∨v'.ownBlock=some w.heap.size):=by
 rcases A with _ | ad
 ·have hm:m=0:=by
   rcases Nat.eq_zero_or_pos m with h0 | h0
   ·exact h0
   ·obtain⟨ad,h,_⟩:=hr.2 h0;cases h
  subst hm;have hn:news=[]:=List.eq_nil_of_length_eq_zero (by simpa using hr.1);subst hn;exact⟨v,w,run_append_of_nil w base t ty e i size ht hi v n xs hown c,by simpa using hown,World.grownBy.refl w _,.inl rfl⟩
 ·have hcells:∀j u,news[j]? = some u→w.cell? (ad.add j)=some u:=by
   intro j u hu;rcases Nat.eq_zero_or_pos m with h0 | h0
   ·subst h0;have hn:news=[]:=List.eq_nil_of_length_eq_zero (by simpa using hr.1);subst hn;simp at hu
   ·obtain⟨ad',h,_,hc⟩:=hr.2 h0;injection h with h;subst h;exact hc j u hu
  obtain⟨v',w',hrun,h2,h3,_,h5⟩:=run_append_own_at (P:=P) w base t ty e i z size bytes ht hi hz hsize hby hzs hsz v n xs hown ad m c news hr.1 hcells h1 h63 hbytes hbase;exact⟨v',w',hrun,h2,h3,h5⟩
theorem wp_append_any {o:Oper}{a:Act}{K:Act→World→Prop}{Q:Exit→Act→World→Prop}(s x:Operand)(t:TypeId)
  (ho:o.op=.call { callee:=.builtin .append,args:=#[s,x],argTypes:=#[t,t] })
  (base:Nat) (e:TypeId) (i:TypeInfo) (z:Value) (size bytes:Nat) (ht:P.underlying t=some (.slice e)) (hi:P.info? e=some i) (hz:i.zero=some z)
  (hsize:i.size=size) (hby:i.bytes=bytes) (hzs:z.cells.size=size) (hsz:0<size)
  (v:Value) (n:Nat) (xs:List Value) (hs:a.eval s=v) (hown:w.ownsRow base e size v n xs)
  (B:Nat) (A:Option Addr) (m c:Nat) (news:List Value) (hx:a.eval x=.slice A m c) (hr:Reads w B size A m news) (h1:∀u∈news,u.oneCell'=true)
  (h63:n+m≤maxLen) (hbytes:(n+m)*bytes≤140737488355328) (hbase:base≤w.heap.size)
  (h:∀v' w',w'.ownsRow base e size v' (n+m) (xs++news)→w.grownBy w' v.ownBlock→(v'.ownBlock=v.ownBlock∨v'.ownBlock=some w.heap.size)→K (a.put o.dst v') w'):o.wp P a w K Q:=by
 obtain⟨v',w',hrun,h2,h3,h4⟩:=run_append_any (P:=P) w base t o.type e i z size bytes ht hi hz hsize hby hzs hsz v n xs hown B A m c news hr h1 h63 hbytes hbase;unfold Oper.wp execOp;simp only[ho,resolve,invoke,builtin,Sem.run_bind,Sem.run_pure,Result.andThen_ok,List.map_toArray,List.map_cons,List.map_nil,hs,hx,hrun];exact h v' w' h2 h3 h4
theorem wpList_append_any {ops:Array Oper}{rest:List Oper}{o:Oper}{a:Act}{Q:Exit→Act→World→Prop}(hgd:o.guard=none)(s x:Operand)(t:TypeId)
  (ho:o.op=.call { callee:=.builtin .append,args:=#[s,x],argTypes:=#[t,t] })
  (base:Nat) (e:TypeId) (i:TypeInfo) (z:Value) (size bytes:Nat) (ht:P.underlying t=some (.slice e)) (hi:P.info? e=some i) (hz:i.zero=some z)
  (hsize:i.size=size) (hby:i.bytes=bytes) (hzs:z.cells.size=size) (hsz:0<size)
  (v:Value) (n:Nat) (xs:List Value) (hs:a.eval s=v) (hown:w.ownsRow base e size v n xs)
  (B:Nat) (A:Option Addr) (m c:Nat) (news:List Value) (hx:a.eval x=.slice A m c) (hr:Reads w B size A m news) (h1:∀u∈news,u.oneCell'=true)
  (h63:n+m≤maxLen) (hbytes:(n+m)*bytes≤140737488355328) (hbase:base≤w.heap.size)
  (h:∀v' w',w'.ownsRow base e size v' (n+m) (xs++news)→w.grownBy w' v.ownBlock→(v'.ownBlock=v.ownBlock∨v'.ownBlock=some w.heap.size)→wpList P ops Q rest (a.put o.dst v') w'):wpList P ops Q (o::rest) a w :=
 wpList_plain hgd fun _ hK=>wp_append_any w s x t ho base e i z size bytes ht hi hz hsize hby hzs hsz v n xs hs hown B A m c news hx hr h1 h63 hbytes hbase fun v' w' h2 h3 h4=>hK _ _ (h v' w' h2 h3 h4)
end
structure Grew (w w':World)(v v':Value):Prop where
 by_:w.grownBy w' v.ownBlock
 at_:v'.ownBlock=v.ownBlock∨∃g,v'.ownBlock=some g∧w.heap.size≤g
theorem Grew.refl (w:World)(v:Value):Grew w w v v:=⟨World.grownBy.refl w _,.inl rfl⟩
theorem Grew.trans {w w' w'':World}{v v' v'':Value}(h:Grew w w' v v')(h':Grew w' w'' v' v''):Grew w w'' v v'' :=
 ⟨⟨h'.by_.os.trans h.by_.os,h'.by_.tape.trans h.by_.tape,h'.by_.output.trans h.by_.output,Nat.le_trans h.by_.size h'.by_.size,fun k hk hne=>by
  rw[h'.by_.block k (Nat.lt_of_lt_of_le hk h.by_.size) (by
   rcases h.at_ with e | ⟨g,e,hg⟩
   ·rw[e];exact hne
   ·rw[e];intro hs;injection hs with hs;omega),h.by_.block k hk hne]⟩,by
  rcases h'.at_ with e | ⟨g,e,hg⟩
  ·rw[e];exact h.at_
  ·exact .inr ⟨g,e,Nat.le_trans h.by_.size hg⟩⟩
theorem Grew.of_alloc {w w':World}{v v':Value}{o:Obj}(hv:∀k,v.ownBlock=some k→k<w.heap.size)(h:Grew (w.alloc o) w' v v'):Grew w w' v v' :=
 ⟨⟨h.by_.os,h.by_.tape,h.by_.output,Nat.le_trans (by simp) h.by_.size,fun k hk hne=>(h.by_.block k (by simp;omega) hne).trans (Below.heap_alloc _ _ _ hk)⟩,by
  rcases h.at_ with e | ⟨g,e,hg⟩
  ·exact .inl e
  ·exact .inr ⟨g,e,by simp at hg;omega⟩⟩
theorem Grew.of_law {w w':World}{v v':Value}(hg:w.grownBy w' v.ownBlock)(hat:v'.ownBlock=v.ownBlock∨v'.ownBlock=some w.heap.size):Grew w w' v v' :=
 ⟨hg,hat.elim .inl fun e=>.inr ⟨_,e,Nat.le_refl _⟩⟩
theorem Grew.below {w w':World}{v v':Value}{B:Nat}(h:Grew w w' v v')(hB:B≤w.heap.size)(hv:∀k,v.ownBlock=some k→B≤k):Below B w w' :=
 (Below.refl B w).grown h.by_ hB hv
def B8 (c:UInt8):Value:=.int .u8 (c.toNat:Int)
def OwnB (w:World)(base:Nat)(v:Value)(l:List UInt8):Prop:=w.ownsRow base 5 1 v l.length (l.map B8)
theorem OwnB.nil (w:World)(base:Nat):OwnB w base (.slice none 0 0) []:=World.ownsRow_nil w base _ 1
theorem OwnB.lt {w:World}{base:Nat}{v:Value}{l:List UInt8}(h:OwnB w base v l):∀k,v.ownBlock=some k→base≤k∧k<w.heap.size:=World.ownsRow.lt h
theorem OwnB.alloc {w:World}{base:Nat}{v:Value}{l:List UInt8}(h:OwnB w base v l)(o:Obj):OwnB (w.alloc o) base v l:=World.ownsRow.alloc h o
theorem OwnB.form {w:World}{base:Nat}{v:Value}{l:List UInt8}(h:OwnB w base v l):∃A cap,v=.slice A l.length cap:=by
 rcases h.2 with⟨rfl,e⟩ | ⟨g,cap,cur,rfl,_⟩
 ·exact⟨none,0,by rw[e]⟩
 ·exact⟨_,cap,rfl⟩
theorem OwnB.of_law {w:World}{base:Nat}{v:Value}{l m:List UInt8}{n:Nat}(h:w.ownsRow base 5 1 v n (l.map B8++m.map B8)):OwnB w base v (l++m):=by
 have hl:n=(l++m).length:=by have:=h.1;simp at this;simp;omega
 subst hl;unfold OwnB;rw[List.map_append];exact h
theorem new_byte (w:World)(X:Int)(c:UInt8)(t:TypeId)(h:X=((c.toNat:Nat):Int)):Reads (w.alloc (.cells #[.int .u8 X] t)) (w.heap.size+1) 1 (some ⟨w.heap.size,0,none⟩) 1 [B8 c]:=by
 refine⟨rfl,fun _=>⟨_,rfl,by simp,fun j u hu=>?_⟩⟩
 cases j with
 | zero =>
  simp at hu;subst hu;simp only[Addr.add,if_true];rw[World.cell?_alloc_new,h];rfl
 | succ j=>simp at hu
theorem empty_bytes:ByteArray.empty=⟨([]:List UInt8).toArray⟩:=rfl
set_option maxRecDepth 100000 in
theorem OwnB.text {w:World}{base:Nat}{v:Value}{l:List UInt8}(h:OwnB w base v l):(convert 81 9 v).run Tryz.prog w=.ok (.string ⟨l.toArray⟩) w:=by
 rcases h.2 with⟨rfl,e⟩ | ⟨g,cap,cur,rfl,hb,hg,hle,hcap,hs,hx⟩
 ·have hl:l=[]:=List.eq_nil_of_length_eq_zero e;subst hl;have h0:=run_convert_bytes_nil (P:=Tryz.prog) w 81 5 Tryz.underlying81 Tryz.underlying5 0 0 9 Tryz.underlying9;rw[h0,empty_bytes]
 ·have:=run_convert_bytes_arg (P:=Tryz.prog) w 81 5 Tryz.underlying81 Tryz.underlying5 g 0 l.length cap (l.map fun c=>(c.toNat:Int)) (by simp) (fun i hi=>by
   have hc:=World.ownsRow.cellAt h i (by simpa using hi);rw[Nat.zero_add,hc]
   simp[B8,List.getD,hi]) 9 Tryz.underlying9
  rw[this]
  congr 2
  unfold strOfNums
  congr 1
  simp[List.map_map,Function.comp_def]
theorem u8_info:(Tryz.prog.info? 5).map (fun i=>(i.zero,i.size,i.bytes))=some (some (.int .u8 0),1,1):=by kernel_rfl
theorem conv_bytes (w:World)(s:ByteArray):∃cap W2,(convert 9 81 (.string s)).run Tryz.prog w=.ok (.slice (some ⟨w.heap.size,0,none⟩) s.size cap) W2∧Below w.heap.size w W2∧W2.heap.size=w.heap.size+1∧∀j,j<s.size→W2.cell? ⟨w.heap.size,j,none⟩=some (B8 (s.data.toList.getD j 0)) :=
 ⟨_,_,Lib.run_convert_string_bytes w 9 81 5 s Tryz.underlying9 Tryz.underlying81 Tryz.underlying5,
  ⟨rfl,rfl,rfl,by rw[Lib.bytesWorld_size];omega,fun k hk=>Lib.bytesWorld_at_old w _ s k hk⟩,Lib.bytesWorld_size w _ s,fun j hj=>Lib.bytesWorld_cell w _ s j hj⟩
section
variable {P:Program}{ops:Array Oper}{Q:Exit→Act→World→Prop}
def putAll:Nat→List Oper→(Nat→Value)→Act→Act
 | _,[],_,a=>a
 | k,o::l,us,a=>putAll (k+1) l us (a.put o.dst (us k))
def updU (us:Nat→Value)(i:Nat)(v:Value):Nat→Value:=fun k=>if k=i then v else us k
def AllOps (H:Nat→Oper→Prop):Nat→List Oper→Prop
 | _,[]=>True
 | k,o::l=>H k o∧AllOps H (k+1) l
theorem AllOps.at_ {H:Nat→Oper→Prop}:∀(l:List Oper) (k:Nat),AllOps H k l→∀j o,l[j]? = some o→H (k+j) o
 | [],_,_,j,o,h=>by simp at h
 | x::l,k,hh,0,o,h=>by simp at h;subst h;exact hh.1
 | x::l,k,hh,j+1,o,h=>by
  have:=AllOps.at_ l (k+1) hh.2 j o (by simpa using h)
  rwa [show k+1+j=k+(j+1) from by omega] at this
def backB (ops:List Oper):Bool:=(ops.zipIdx).all fun (o,i)=>o.after.all fun e=>!Region.binds .any e||decide (e.on<i)
theorem ready_none {ops:Array Oper}(hb:backB ops.toList=true){listed:Array Bool}(hs:listed.size=ops.size)(h:Region.ready .any ops listed=[]):∀i,i<ops.size→listed.getD i false=true:=by
 intro i
 induction i using Nat.strongRecOn with
 | ind i ih =>
  intro hi;rcases Bool.eq_false_or_eq_true (listed.getD i false) with hl | hl
  ·exact hl
  ·exfalso
   have hm:i∈Region.ready .any ops listed:=by
    rw[mem_ready];refine⟨?_,ops[i],Array.getElem?_eq_getElem hi,?_⟩
    ·have:i<listed.size:=by omega
     simp[Array.getD,this] at hl ⊢;exact hl
    ·intro e he hbind;unfold backB at hb;rw[List.all_eq_true] at hb;have h1:=hb (ops[i],i) (by rw[List.mem_zipIdx_iff_getElem?];simp[hi]);simp only[Array.all_eq_true_iff_forall_mem] at h1;have h2:=h1 e he;simp[hbind] at h2;exact ih e.on h2 (by omega)
   rw[h] at hm;cases hm
def dstNe (a b:Option Tmp):Bool:=match a,b with
 | some x,some y=>x != y
 | _,_=>true
def apartB:List Oper→Bool
 | []=>true
 | o::l=>(l.all fun p=>dstNe o.dst p.dst)&&apartB l
theorem put_comm2 (a:Act)(d e:Option Tmp)(v u:Value)(h:dstNe d e=true):(a.put d v).put e u=(a.put e u).put d v:=by
 cases d<;>cases e<;>simp[Act.put]
 rename_i x y
 have:x≠y:=by simpa[dstNe] using h
 rw[Array.setIfInBounds_comm _ _ this]
theorem put_put (a:Act)(d:Option Tmp)(v u:Value):(a.put d v).put d u=a.put d u:=by
 cases d<;>simp[Act.put]
theorem putAll_congr:∀(l:List Oper) (k:Nat) (us us':Nat→Value) (a:Act),(∀j,k≤j→us j=us' j)→putAll k l us a=putAll k l us' a
 | [],_,_,_,_,_=>rfl
 | o::l,k,us,us',a,h=>by
  unfold putAll;rw[h k (Nat.le_refl _)];exact putAll_congr l (k+1) us us' _ (fun j hj=>h j (by omega))
theorem putAll_out:∀(l:List Oper) (k:Nat) (us:Nat→Value) (a:Act) (d:Option Tmp) (v:Value),(l.all fun p=>dstNe d p.dst)=true→(putAll k l us a).put d v=putAll k l us (a.put d v)
 | [],_,_,_,_,_,_=>rfl
 | o::l,k,us,a,d,v,h=>by
  simp only[List.all_cons,Bool.and_eq_true] at h;unfold putAll;rw[putAll_out l (k+1) us _ d v h.2,put_comm2 a d o.dst v (us k) h.1]
theorem putAll_put:∀(l:List Oper) (k:Nat) (us:Nat→Value) (a:Act) (i:Nat) (o:Oper) (v:Value),apartB l=true→l[i]? = some o→(putAll k l us a).put o.dst v=putAll k l (updU us (k+i) v) a
 | [],_,_,_,_,_,_,_,h=>by simp at h
 | x::l,k,us,a,0,o,v,hb,h=>by
  simp at h;subst h;simp only[apartB,Bool.and_eq_true] at hb;unfold putAll;rw[putAll_out l (k+1) us _ x.dst v hb.1,put_put,putAll_congr l (k+1) us (updU us (k+0) v) _ (fun j hj=>by unfold updU;rw[if_neg (by omega)])];simp[updU]
 | x::l,k,us,a,i+1,o,v,hb,h=>by
  simp only[apartB,Bool.and_eq_true] at hb;unfold putAll;rw[putAll_put l (k+1) us _ i o v hb.2 (by simpa using h)]
  have e1:updU us (k+(i+1)) v k=us k:=by unfold updU;rw[if_neg (by omega)]
  rw[e1,show k+1+i=k+(i+1) from by omega]
theorem count_set:∀(l:List Bool) (i:Nat),l[i]? = some false→(l.set i true).count false+1=l.count false
 | [],i,h=>by simp at h
 | b::l,0,h=>by simp at h;subst h;simp
 | b::l,i+1,h=>by
  have:=count_set l i (by simpa using h);simp only[List.set_cons_succ,List.count_cons];omega
theorem wp_region_typed {id:Nat}{a0:Act}{w0:World}{l:List Oper}(R:World→World→Prop)(τ:Nat→Value→World→Prop)(us0:Nat→Value)
  (hm:P.follows .mixedOrders=true) (hb:backB l=true)
  (hap:apartB l=true)
  (hrefl:R w0 w0.drew) (hreflw:∀w,R w w) (htrans:∀a b c,R a b→R b c→R a c)
  (h0:putAll 0 l us0 a0=a0)
  (hmono:∀k v w w',τ k v w→R w w'→τ k v w')
  (hop:AllOps (fun i o=>∀us w,R w0 w→(∀k,(∃e,e∈o.after∧Region.binds .any e=true∧e.on=k)→τ k (us k) w) →
   if Region.wanted o (yielded l.toArray (putAll 0 l us a0).tmps)=true then o.wp P (putAll 0 l us a0) w (fun a' w'=>∃v,a'=(putAll 0 l us a0).put o.dst v∧R w w'∧τ i v w') Q else τ i undef w) 0 l)
  (hend:∀us w,R w0 w→(∀i,i<l.length→τ i (us i) w)→Q .normal (putAll 0 l us a0) w):(Code.region id l.toArray true).wp P Q a0 w0:=by
 have hF:∀us i o v,l[i]? = some o→(putAll 0 l us a0).put o.dst v=putAll 0 l (updU us i v) a0:=fun us i o v h=>by
  have:=putAll_put l 0 us a0 i o v hap h
  rwa [Nat.zero_add] at this
 have key:∀(fuel:Nat) (listed:Array Bool) (us:Nat→Value) (w:World),listed.size=l.length→listed.toList.count false≤fuel→R w0 w→(∀i,listed.getD i false=true→τ i (us i) w) →
   wpAny P .any l.toArray Q fuel listed (putAll 0 l us a0) w:=by
  intro fuel
  induction fuel with
  | zero =>
   intro listed us w hs hc hR ht
   have hall:∀i,i<l.length→listed.getD i false=true:=by
    intro i hi
    have h1:i<listed.size:=by omega
    have h2:listed.toList.count false=0:=by omega
    rw[List.count_eq_zero] at h2;have h3:listed[i]≠false:=fun e=>h2 (by rw[←e];exact Array.getElem_mem_toList h1);simp[Array.getD,h1]
    simpa using h3
   refine⟨?_,hend us w hR (fun i hi=>ht i (hall i hi))⟩;rw[List.eq_nil_iff_forall_not_mem];intro i hi;rw[mem_ready] at hi
   have h1:i<listed.size:=by
    rcases Nat.lt_or_ge i listed.size with h | h
    ·exact h
    ·have:=hi.1;simp[Array.getD,Nat.not_lt.2 h] at this
   have h2:=hall i (by omega);have h3:=hi.1;simp[Array.getD,h1] at h2 h3;rw[h2] at h3;cases h3
  | succ fuel ih =>
   intro listed us w hs hc hR ht;refine⟨fun h=>hend us w hR (fun i hi=>ht i (ready_none (ops:=l.toArray) (by simpa using hb) (by simpa using hs) h i (by simpa using hi))),fun i hi=>?_⟩;rw[mem_ready] at hi;obtain⟨hun,o,ho,hedge⟩:=hi
   have hl:l[i]? = some o:=by simpa using ho
   have h1:i<listed.size:=by
    rw[hs];exact (List.getElem?_eq_some_iff.1 hl).1
   have hun':listed[i]=false:=by simpa[Array.getD,h1] using hun
   have hop':=AllOps.at_ l 0 hop i o hl;rw[Nat.zero_add] at hop';have hop2:=hop' us w hR (fun k ⟨e,he,hbd,hk⟩=>hk ▸ ht _ (hedge e he hbd))
   have next:∀v w',R w w'→τ i v w'→wpAny P .any l.toArray Q fuel (listed.setIfInBounds i true) ((putAll 0 l us a0).put o.dst v) w':=by
    intro v w' hR' hv;rw[hF us i o v hl];refine ih _ _ _ (by simpa using hs) ?_ (htrans _ _ _ hR hR') (fun k hk=>?_)
    ·have:=count_set listed.toList i (by rw[Array.getElem?_toList,Array.getElem?_eq_getElem h1,hun']);rw[Array.toList_setIfInBounds];omega
    ·unfold updU
     by_cases hki:k=i
     ·subst hki;rw[if_pos rfl];exact hv
     ·rw[if_neg hki];refine hmono _ _ _ _ (ht k ?_) hR';have:i≠k:=fun e=>hki e.symm;simp only[Array.getD_eq_getD_getElem?,Array.getElem?_setIfInBounds_ne this] at hk ⊢;exact hk
   unfold wpOp;simp only[ho]
   by_cases hw:Region.wanted o (yielded l.toArray (putAll 0 l us a0).tmps)=true
   ·rw[if_pos hw] at hop2 ⊢;refine .inl (Oper.wp_mono ?_ hop2);rintro a' w' ⟨v,rfl,hR',hv⟩;exact next v w' hR' hv
   ·rw[if_neg hw] at hop2 ⊢;exact next undef w (hreflw w) hop2
 have hfin:=key l.toArray.size (Array.replicate l.toArray.size false) us0 w0.drew (by simp) (by simp) hrefl (fun i hi=>by
  exfalso
  by_cases h:i<l.toArray.size
  ·simp[Array.getD,h] at hi
  ·simp[Array.getD,h] at hi)
 rw[h0] at hfin;exact wp_region_any hm hfin
def setD (d:Nat→Bool)(i:Nat):Nat→Bool:=fun k=>if k=i then true else d k
def OpInv (P:Program)(a0:Act)(l:List Oper)(I:(Nat→Bool)→(Nat→Value)→World→Prop)(i:Nat)(o:Oper):Prop :=
 ∀(d:Nat→Bool) (us:Nat→Value) (w:World),I d us w→d i=false→(∀k,(∃e,e∈o.after∧Region.binds .any e=true∧e.on=k)→d k=true) →
  ∀us':Nat→Value,us'=us→(Region.wanted o (yielded l.toArray (putAll 0 l us' a0).tmps)=true ∧
   ∀(K:Act→World→Prop) (Q:Exit→Act→World→Prop),(∀v w',I (setD d i) (updU us i v) w'→K ((putAll 0 l us a0).put o.dst v) w')→o.wp P (putAll 0 l us a0) w K Q) ∨
  (¬Region.wanted o (yielded l.toArray (putAll 0 l us' a0).tmps)=true∧I (setD d i) (updU us i undef) w)
theorem wp_region_inv {id:Nat}{a0:Act}{w0:World}{l:List Oper}(I:(Nat→Bool)→(Nat→Value)→World→Prop)(us0:Nat→Value)
  (hm:P.follows .mixedOrders=true) (hb:backB l=true)
  (hap:apartB l=true)
  (h0:putAll 0 l us0 a0=a0)
  (hst:I (fun _=>false) us0 w0.drew)
  (hop:AllOps (OpInv P a0 l I) 0 l)
  (hend:∀d us w,I d us w→(∀i,i<l.length→d i=true)→Q .normal (putAll 0 l us a0) w):(Code.region id l.toArray true).wp P Q a0 w0:=by
 have hF:∀us i o v,l[i]? = some o→(putAll 0 l us a0).put o.dst v=putAll 0 l (updU us i v) a0:=fun us i o v h=>by
  have:=putAll_put l 0 us a0 i o v hap h
  rwa [Nat.zero_add] at this
 have key:∀(fuel:Nat) (listed:Array Bool) (us:Nat→Value) (w:World),listed.size=l.length→listed.toList.count false≤fuel→I (fun k=>listed.getD k false) us w →
   wpAny P .any l.toArray Q fuel listed (putAll 0 l us a0) w:=by
  intro fuel
  induction fuel with
  | zero =>
   intro listed us w hs hc hI
   have hall:∀i,i<l.length→listed.getD i false=true:=by
    intro i hi
    have h1:i<listed.size:=by omega
    have h2:listed.toList.count false=0:=by omega
    rw[List.count_eq_zero] at h2;have h3:listed[i]≠false:=fun e=>h2 (by rw[←e];exact Array.getElem_mem_toList h1);simp[Array.getD,h1]
    simpa using h3
   refine⟨?_,hend _ us w hI (fun i hi=>hall i hi)⟩;rw[List.eq_nil_iff_forall_not_mem];intro i hi;rw[mem_ready] at hi
   have h1:i<listed.size:=by
    rcases Nat.lt_or_ge i listed.size with h | h
    ·exact h
    ·have:=hi.1;simp[Array.getD,Nat.not_lt.2 h] at this
   have h2:=hall i (by omega);have h3:=hi.1;simp[Array.getD,h1] at h2 h3;rw[h2] at h3;cases h3
  | succ fuel ih =>
   intro listed us w hs hc hI;refine⟨fun h=>hend _ us w hI (fun i hi=>ready_none (ops:=l.toArray) (by simpa using hb) (by simpa using hs) h i (by simpa using hi)),fun i hi=>?_⟩;rw[mem_ready] at hi;obtain⟨hun,o,ho,hedge⟩:=hi
   have hl:l[i]? = some o:=by simpa using ho
   have h1:i<listed.size:=by
    rw[hs];exact (List.getElem?_eq_some_iff.1 hl).1
   have hun':listed[i]=false:=by simpa[Array.getD,h1] using hun
   have hop':=AllOps.at_ l 0 hop i o hl;rw[Nat.zero_add] at hop';have hop2:=hop' _ us w hI (by simp[Array.getD,h1,hun']) (fun k ⟨e,he,hbd,hk⟩=>hk ▸ hedge e he hbd) us rfl
   have hset:(fun k=>(listed.setIfInBounds i true).getD k false)=setD (fun k=>listed.getD k false) i:=by
    funext k
    unfold setD
    by_cases hki:k=i
    ·subst hki;simp[Array.getD,h1]
    ·have:i≠k:=fun e=>hki e.symm;rw[if_neg hki];simp only[Array.getD_eq_getD_getElem?,Array.getElem?_setIfInBounds_ne this]
   have next:∀v w',I (setD (fun k=>listed.getD k false) i) (updU us i v) w'→wpAny P .any l.toArray Q fuel (listed.setIfInBounds i true) ((putAll 0 l us a0).put o.dst v) w':=by
    intro v w' hI';rw[hF us i o v hl];refine ih _ _ _ (by simpa using hs) ?_ (by rw[hset];exact hI');have:=count_set listed.toList i (by rw[Array.getElem?_toList,Array.getElem?_eq_getElem h1,hun']);rw[Array.toList_setIfInBounds];omega
   unfold wpOp;simp only[ho];rcases hop2 with⟨hw,h⟩ | ⟨hw,h⟩
   ·rw[if_pos hw];exact .inl (h _ _ (fun v w' h=>next v w' h))
   ·rw[if_neg hw];exact next undef w h
 have hfin:=key l.toArray.size (Array.replicate l.toArray.size false) us0 w0.drew (by simp) (by simp) (by
  have:(fun k=>(Array.replicate l.toArray.size false).getD k false)=(fun _=>false):=by
   funext k
   by_cases h:k<l.toArray.size
   ·simp[Array.getD,h]
   ·simp[Array.getD,h]
  rw[this]
  exact hst)
 rw[h0] at hfin;exact wp_region_any hm hfin
def laterB (l:List Oper)(i:Nat):Nat→Nat→Bool
 | 0,_=>false
 | f+1,k=>match l[k]? with
  | none=>false
  | some o=>o.after.toList.any fun e=>Region.binds .any e&&(e.on==i||laterB l i f e.on)
def Shut (l:List Oper)(d:Nat→Bool):Prop:=∀k o,l[k]? = some o→d k=true→∀e,e∈o.after→Region.binds .any e=true→d e.on=true
theorem laterB_not {l:List Oper}{d:Nat→Bool}{i:Nat}(hs:Shut l d)(hi:d i=false):∀f k,laterB l i f k=true→d k=false
 | 0,_,h=>by simp[laterB] at h
 | f+1,k,h=>by
  unfold laterB at h
  cases ho:l[k]? with
  | none=>rw[ho] at h;simp at h
  | some o =>
   rw[ho] at h;simp only[List.any_eq_true,Bool.and_eq_true,Bool.or_eq_true,beq_iff_eq] at h;obtain⟨e,he0,hb,h1⟩:=h
   have he:e∈o.after:=by simpa using he0
   rcases Bool.eq_false_or_eq_true (d k) with hk | hk
   ·have h2:=hs k o ho hk e he hb;rcases h1 with h1 | h1
    ·rw[h1,hi] at h2;cases h2
    ·rw[laterB_not hs hi f e.on h1] at h2;cases h2
   ·exact hk
def OpT (P:Program)(a0:Act)(l:List Oper)(J:(Nat→Bool)→World→Prop)(τ:Nat→Value→World→Prop)(us0:Nat→Value)(i:Nat)(o:Oper):Prop :=
 ∀(d:Nat→Bool) (us:Nat→Value) (w:World),d i=false→J d w→(∀k,(∃e,e∈o.after∧Region.binds .any e=true∧e.on=k)→d k=true∧τ k (us k) w)→(∀k,laterB l i l.length k=true→d k=false∧us k=us0 k)→us i=us0 i →
  (Region.wanted o (yielded l.toArray (putAll 0 l us a0).tmps)=true ∧
   ∀(K:Act→World→Prop) (Q:Exit→Act→World→Prop),(∀v w',J (setD d i) w'→τ i v w'→(∀k u,k≠i→τ k u w→τ k u w')→K ((putAll 0 l us a0).put o.dst v) w')→o.wp P (putAll 0 l us a0) w K Q) ∨
  (¬Region.wanted o (yielded l.toArray (putAll 0 l us a0).tmps)=true∧J (setD d i) w∧τ i undef w)
theorem wp_region_task {id:Nat}{a0:Act}{w0:World}{l:List Oper}(J:(Nat→Bool)→World→Prop)(τ:Nat→Value→World→Prop)(us0:Nat→Value)
  (hm:P.follows .mixedOrders=true) (hb:backB l=true)
  (hap:apartB l=true)
  (h0:putAll 0 l us0 a0=a0)
  (hst:J (fun _=>false) w0.drew)
  (hop:AllOps (OpT P a0 l J τ us0) 0 l)
  (hend:∀d us w,J d w→(∀i,i<l.length→d i=true∧τ i (us i) w)→Q .normal (putAll 0 l us a0) w):(Code.region id l.toArray true).wp P Q a0 w0:=by
 refine wp_region_inv (fun d us w=>J d w∧Shut l d∧(∀k,d k=true→τ k (us k) w)∧(∀k,d k=false→us k=us0 k)) us0 hm hb hap h0 ⟨hst,(fun _ _ _ h=>(by cases h)),(fun _ h=>(by cases h)),fun _ _=>rfl⟩ ?_ (fun d us w hI hd=>hend d us w hI.1 (fun i hi=>⟨hd i hi,hI.2.2.1 i (hd i hi)⟩))
 have shut:∀(i:Nat) (o:Oper) (d:Nat→Bool),l[i]? = some o→Shut l d→(∀k,(∃e,e∈o.after∧Region.binds .any e=true∧e.on=k)→d k=true)→Shut l (setD d i):=by
  intro i o d hl hs hp k o' ho' hk e he hbd;unfold setD at hk ⊢
  by_cases hon:e.on=i
  ·rw[if_pos hon]
  ·rw[if_neg hon]
   by_cases hki:k=i
   ·subst hki;rw[hl] at ho';injection ho' with ho';subst ho';exact hp _ ⟨e,he,hbd,rfl⟩
   ·rw[if_neg hki] at hk;exact hs k o' ho' hk e he hbd
 have conv:∀(ll:List Oper) (k:Nat),(∀j o,ll[j]? = some o→l[k+j]? = some o)→AllOps (OpT P a0 l J τ us0) k ll→AllOps (OpInv P a0 l (fun d us w=>J d w∧Shut l d∧(∀k,d k=true→τ k (us k) w)∧(∀k,d k=false→us k=us0 k))) k ll:=by
  intro ll
  induction ll with
  | nil=>exact fun _ _ _=>trivial
  | cons o ll ih =>
   rintro k hat ⟨h1,h2⟩;refine⟨?_,ih (k+1) (fun j o' h=>by have:=hat (j+1) o' (by simpa using h);rwa [show k+(j+1)=k+1+j from by omega] at this) h2⟩;rintro d us w ⟨hJ,hs,ht,hu⟩ hd hp us' rfl
   have hlk:l[k]? = some o:=by simpa using hat 0 o (by simp)
   have hs':=shut k o d hlk hs hp;rcases h1 d us' w hd hJ (fun j hj=>⟨hp j hj,ht j (hp j hj)⟩) (fun j hj=>have:=laterB_not hs hd _ _ hj;⟨this,hu j this⟩) (hu k hd) with⟨hw,h⟩ | ⟨hw,hJ',ht'⟩
   ·refine .inl ⟨hw,fun K Q hK=>h K Q fun v w' hj hv hmono=>hK v w' ⟨hj,hs',fun j hj=>?_,fun j hj=>?_⟩⟩
    ·unfold setD at hj;unfold updU
     by_cases hjk:j=k
     ·subst hjk;rw[if_pos rfl];exact hv
     ·rw[if_neg hjk] at hj ⊢;exact hmono _ _ hjk (ht j hj)
    ·unfold setD at hj;unfold updU
     by_cases hjk:j=k
     ·rw[if_pos hjk] at hj;cases hj
     ·rw[if_neg hjk] at hj ⊢;exact hu j hj
   ·refine .inr ⟨hw,hJ',hs',fun j hj=>?_,fun j hj=>?_⟩
    ·unfold setD at hj;unfold updU
     by_cases hjk:j=k
     ·subst hjk;rw[if_pos rfl];exact ht'
     ·rw[if_neg hjk] at hj ⊢;exact ht j hj
    ·unfold setD at hj;unfold updU
     by_cases hjk:j=k
     ·rw[if_pos hjk] at hj;cases hj
     ·rw[if_neg hjk] at hj ⊢;exact hu j hj
 exact conv l 0 (fun j o h=>by simpa using h) hop
end
def tauL (vs:List (Option Value))(Sp:Nat→Value→World→Prop)(k:Nat)(v:Value)(w:World):Prop:=match (vs[k]?).join with
 | some x=>v=x
 | none=>Sp k v w
def tauN:Nat→Value→World→Prop:=fun _ _ _=>True
theorem tauL_mono {vs:List (Option Value)}{Sp:Nat→Value→World→Prop}{w w':World}(hs:∀k u,Sp k u w→Sp k u w')(k:Nat)(u:Value)(h:tauL vs Sp k u w):tauL vs Sp k u w':=by
 unfold tauL at *
 split at h<;>first | exact h | exact hs _ _ h
theorem tauL_any {vs:List (Option Value)}{w w':World}(k:Nat)(u:Value)(h:tauL vs tauN k u w):tauL vs tauN k u w':=tauL_mono (fun _ _ _=>trivial) k u h
end Go.Proofs.YtlpojfgeocpkeaaGreatDoor
namespace Go.Proofs.YtlpojfgeocpkeaaGreatDoor
open Go.RowKit
set_option linter.unusedVariables false
def Ext (w:World):Type:={ w':World // Below w.heap.size w w' }
def Ext.w {w:World}(x:Ext w):World:=x.1
theorem Ext.below {w:World}(x:Ext w):Below w.heap.size w x.w:=x.2
instance (w:World):Nonempty (Ext w):=⟨⟨w,Below.refl _ _⟩⟩
theorem Ext.cell {w:World}(x:Ext w)(b o:Nat)(h:b<w.heap.size):x.w.cell? ⟨b,o,none⟩=w.cell? ⟨b,o,none⟩:=x.below.cell (p:=⟨b,o,none⟩) h
theorem Ext.frozen {w:World}(x:Ext w)(b o:Nat)(h:b<w.heap.size):x.w.frozen? ⟨b,o,none⟩=w.frozen? ⟨b,o,none⟩:=x.below.frozen (p:=⟨b,o,none⟩) h
theorem wp_region_ext {P:Program}{id:Nat}{Q:Exit→Act→World→Prop}{a:Act}{w:World}{l:List Oper}(hm:P.follows .mixedOrders=true)(hB:Region.lexB .any l.toArray=true)
  (h:wpQuiet P l.toArray (fun w'=>∃x:Ext w,w'=x.w) (fun a'=>∀w',(∃x:Ext w,w'=x.w)→Q .normal a' w') l a):(Code.region id l.toArray true).wp P Q a w :=
 wp_region_quiet (C:=fun w'=>∃x:Ext w,w'=x.w) hm hB ⟨⟨w.drew,(Below.refl _ _).drew⟩,rfl⟩ (by simpa using h)
theorem Calls.ext {P:Program}{f:FuncId}{args:Array Value}{w:World}{x:Ext w}{v:Value}
  (h:Calls P f args x.w fun e w'=>e=.returned v∧Below x.w.heap.size x.w w'):Calls P f args x.w fun e w''=>e=.returned v∧∃y:Ext w,w''=y.w :=
 h.mono fun _ w' ⟨he,hb⟩=>⟨he,⟨w',x.below.trans (hb.mono x.below.size)⟩,rfl⟩
theorem Calls.ext_same {P:Program}{f:FuncId}{args:Array Value}{w:World}{x:Ext w}{v:Value}
  (h:Calls P f args x.w fun e w'=>e=.returned v∧x.w=w'):Calls P f args x.w fun e w''=>e=.returned v∧∃y:Ext w,w''=y.w :=
 h.mono fun _ w' ⟨he,hb⟩=>⟨he,x,hb.symm⟩
end Go.Proofs.YtlpojfgeocpkeaaGreatDoor
