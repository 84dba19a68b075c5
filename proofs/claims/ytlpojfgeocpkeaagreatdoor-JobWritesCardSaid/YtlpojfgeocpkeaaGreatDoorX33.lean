/- Package job, plain: what a step of a job does. What a job's calls keep: its lists, the program's variables. -/
import Derived.Test.YtlpojfgeocpkeaaGreatDoorX31
import Derived.Test.YtlpojfgeocpkeaaGreatDoorX32
namespace Go.Proofs.YtlpojfgeocpkeaaGreatDoor
open Go.RowKit Go.Lib
set_option linter.unusedVariables false
set_option linter.unusedSimpArgs false
def tabW:L:=[116,97,98,108,101]
def nameT (n:Nat):L:=nameL tabW n
def finJ (r:TB × L × List Ent):TI:={ r.1.t with size:=r.2.1.length+r.1.outL.length }
structure JW where
 li:Nat
 en:Nat
 ts:List TI
 fs:List L
def openD (n:Nat)(J:JW)(s:Dsk):Dsk × Nat:=if J.en=0 then s.create (nameT (n+J.li)) else (s,0)
def openF (n:Nat)(J:JW):List L:=if J.en=0 then J.fs++[nameT (n+J.li)] else J.fs
def writeE (n:Nat)(lv:Int)(l:List Ent)(J:JW)(s:Dsk):JW × Dsk × Nat :=
 if (openD n J s).2=0 then
  if (laidE (openD n J s).1 (nameT (n+J.li)) ((runX (n+J.li) lv (l.take J.en)).1.add (l.getD J.en ent0)).2).2=0 then
   if J.en+1<l.length then (⟨J.li,J.en+1,J.ts,openF n J⟩,(laidE (openD n J s).1 (nameT (n+J.li)) ((runX (n+J.li) lv (l.take J.en)).1.add (l.getD J.en ent0)).2).1,0)
   else if (finD (laidE (openD n J s).1 (nameT (n+J.li)) ((runX (n+J.li) lv (l.take J.en)).1.add (l.getD J.en ent0)).2).1 (nameT (n+J.li)) (runX (n+J.li) lv l).1.outL).2=0 then
    (⟨J.li+1,0,J.ts++[finJ (runX (n+J.li) lv l)],openF n J⟩,(finD (laidE (openD n J s).1 (nameT (n+J.li)) ((runX (n+J.li) lv (l.take J.en)).1.add (l.getD J.en ent0)).2).1 (nameT (n+J.li)) (runX (n+J.li) lv l).1.outL).1,0)
   else (⟨J.li,J.en+1,J.ts,openF n J⟩,finD (laidE (openD n J s).1 (nameT (n+J.li)) ((runX (n+J.li) lv (l.take J.en)).1.add (l.getD J.en ent0)).2).1 (nameT (n+J.li)) (runX (n+J.li) lv l).1.outL)
  else (⟨J.li,J.en,J.ts,openF n J⟩,laidE (openD n J s).1 (nameT (n+J.li)) ((runX (n+J.li) lv (l.take J.en)).1.add (l.getD J.en ent0)).2)
 else (J,openD n J s)
theorem openD_good {s:Dsk}{m:Nat}(g:s.Good m)(n:Nat)(J:JW):(openD n J s).1.Good (m+1):=by
 unfold openD;split
 ·exact g.create _
 ·exact g.more (by omega)
theorem finD_good {s:Dsk}{m:Nat}(g:s.Good m)(name rest:L):(finD s name rest).1.Good (m+2):=by
 unfold finD;split
 ·exact (laidE_good g name rest).sync _
 ·exact (laidE_good g name rest).more (by omega)
theorem writeE_good {s:Dsk}{m:Nat}(g:s.Good m)(n:Nat)(lv:Int)(l:List Ent)(J:JW):(writeE n lv l J s).2.1.Good (m+4):=by
 have h1:=openD_good g n J;have h2:=laidE_good h1 (nameT (n+J.li)) ((runX (n+J.li) lv (l.take J.en)).1.add (l.getD J.en ent0)).2;have h3:=finD_good h2 (nameT (n+J.li)) (runX (n+J.li) lv l).1.outL;unfold writeE;split
 ·split
  ·split
   ·exact h2.more (by omega)
   ·split
    ·exact h3
    ·exact h3
  ·exact h2.more (by omega)
 ·exact h1.more (by omega)
theorem nameT_len (n:Nat)(h:n<18446744073709551616):(nameT n).length≤40:=by
 have h1:=decDigits_length n;have h2:=nDigits_le h;unfold nameT nameL pad8 tabW;simp;omega
structure OkL (l:List Ent):Prop where
 inc:l.Pairwise fun x y=>ltE x y=true
 fit:∀e∈l,fitsE e=true
 len:l.length≤60
 pos:0<l.length
theorem entSz_le (l:List Ent)(h:∀e∈l,fitsE e=true):entSz l≤576*l.length:=by
 induction l with
 | nil=>simp[entSz]
 | cons e l ih =>
  have h1:=ih (fun x hx=>h x (List.mem_cons_of_mem _ hx));obtain⟨h2,h3,h4,_⟩:=fits_parts (h e (List.mem_cons_self ..));unfold entSz at h1 ⊢;simp only[List.map_cons,List.sum_cons,List.length_cons];omega
section
variable {l:List Ent}(h:OkL l)(n:Nat)(lv:Int)
include h
theorem OkL.runI (k:Nat)(hk:k≤l.length):∃bl cu,RunI n lv (l.take k) (runX n lv (l.take k)).1 (runX n lv (l.take k)).2.1 bl cu:=by
 obtain⟨bl,cu,hI,_⟩:=(runX_I n lv (l.take k)).ex;rw[runX_take h.inc h.fit k hk] at hI;exact⟨bl,cu,hI⟩
theorem OkL.cost (k:Nat)(hk:k≤l.length):(runX n lv (l.take k)).2.1.length+(runX n lv (l.take k)).1.outL.length≤2*entSz (l.take k)+60000:=by
 obtain⟨bl,cu,hI⟩:=h.runI n lv k hk;have h1:=hI.file_cost (by rw[List.length_take];have:=h.len;omega);rw[List.length_append] at h1;exact h1
theorem OkL.small (k:Nat)(hk:k≤l.length):(runX n lv (l.take k)).2.1.length+(runX n lv (l.take k)).1.outL.length≤200000:=by
 have h1:=h.cost n lv k hk;have h2:=entSz_le (l.take k) (fun e he=>h.fit e (List.mem_of_mem_take he));rw[List.length_take] at h2;have:=h.len;omega
theorem OkL.snoc {k:Nat}(hk:k<l.length):runX n lv (l.take (k+1))=(((runX n lv (l.take k)).1.add (l.getD k ent0)).1,(runX n lv (l.take k)).2.1++((runX n lv (l.take k)).1.add (l.getD k ent0)).2,l.take (k+1))∧(runX n lv (l.take k)).1.err (l.getD k ent0)=0:=by
 have e1:l.getD k ent0=l[k]:=by rw[List.getD_eq_getElem?_getD,List.getElem?_eq_getElem hk];rfl
 have h1:=runX_err (n:=n) (lv:=lv) h.inc h.fit hk;have h2:=runX_take (n:=n) (lv:=lv) h.inc h.fit (k+1) (by omega)
 have h3:runX n lv (l.take (k+1))=stepX (runX n lv (l.take k)) l[k]:=by
  rw[List.take_succ_eq_append_getElem hk,runX_snoc]
 rw[e1];refine⟨?_,h1⟩;rw[h3] at h2 ⊢;refine Prod.ext rfl (Prod.ext rfl ?_);exact h2
theorem OkL.piece {k:Nat}(hk:k<l.length):((runX n lv (l.take k)).1.add (l.getD k ent0)).2.length≤200000:=by
 have h1:=h.small n lv (k+1) (by omega);rw[(h.snoc n lv hk).1] at h1;simp only[List.length_append] at h1;omega
end
end Go.Proofs.YtlpojfgeocpkeaaGreatDoor
namespace Go.Proofs.YtlpojfgeocpkeaaGreatDoor
open Go.RowKit Go.Sort
set_option linter.unusedVariables false
set_option linter.unusedSimpArgs false
theorem OwnF.keeps {K:Nat→Prop}{w w':World}{B:Nat}{v:Value}{l:List Ent}(h:OwnF w B v l)(hk:Keeps K w w')(hK:∀k,v.ownBlock=some k→K k):OwnF w' B v l:=by
 rcases h with h | ⟨g,cap,rfl,hB,hm,hr⟩
 ·exact .inl h
 ·obtain⟨cs,hb,h1,h2⟩:=hr.blk;exact .inr ⟨g,cap,rfl,hB,hm,hr.le,cs,hk.blk hb (hK g rfl),h1,h2⟩
theorem OwnLL.keeps {K:Nat→Prop}{w w':World}{B:Nat}{v:Value}{ls:List EL}(h:OwnLL w B v ls)(hk:Keeps K w w')(h1:∀k,v.ownBlock=some k→K k)(h2:∀x∈ls,∀k,(Value.slice x.A x.l.length x.c).ownBlock=some k→K k):OwnLL w' B v ls :=
 ⟨hk.own h.row h1,fun x hx=>(h.each x hx).keeps hk (h2 x hx)⟩
theorem own_form {w:World}{B e m n:Nat}{v:Value}{xs:List Value}(h:w.ownsRow B e m v (n+1) xs):∃A c,v=.slice A (n+1) c:=by
 rcases h.2 with⟨_,e⟩ | ⟨gg,cap,cur,rfl,_⟩
 ·omega
 ·exact⟨_,cap,rfl⟩
theorem Tab.low {B:Nat}{w w':World}(h:Tab w)(hb:Below B w w')(hB:6≤B):Tab w':=var_below g_tab h hb (by omega)
structure JK (K:Nat→Prop)(w:World)(vl:Value)(os:List EL):Prop where
 rows:OwnLL w 0 vl os
 in1:∀k,vl.ownBlock=some k→K k
 in2:∀x∈os,∀k,(Value.slice x.A x.l.length x.c).ownBlock=some k→K k
 ok:∀x∈os,OkL x.l
 few:os.length≤6
 gl:Gl w
 five:Tab w
 low:∀k,k<7→K k
 size:7≤w.heap.size
section
variable {K:Nat→Prop}{w w':World}{vl:Value}{os:List EL}
theorem JK.keeps (h:JK K w vl os)(hk:Keeps K w w'):JK K w' vl os :=
 ⟨h.rows.keeps hk h.in1 h.in2,h.in1,h.in2,h.ok,h.few,h.gl.keeps hk (h.low _ (by decide)) (h.low _ (by decide)),h.five.low (hk.below h.low) (by decide),h.low,by have:=hk.size;have:=h.size;omega⟩
theorem OkL.seq {l:List Ent}(h:OkL l):∀e∈l,e.seq<18446744073709551616:=fun e he=>by
 have:=(fits_parts (h.fit e he)).2.2.2.2.2;omega
theorem JK.ls (h:JK K w vl os):∃A c,vl=.slice A os.length c∧LsAt w w.heap.size A os:=by
 obtain⟨A,c,rfl⟩:=h.rows.form;exact⟨A,c,rfl,h.rows.ls (fun x hx=>(h.ok x hx).seq)⟩
end
end Go.Proofs.YtlpojfgeocpkeaaGreatDoor
