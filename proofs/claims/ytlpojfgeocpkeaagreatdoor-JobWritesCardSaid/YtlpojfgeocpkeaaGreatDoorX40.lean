/- JobRoom: the plain law. Package job, plain: what each operation on a job's files keeps, a step keeps; which names there are. JobFuse, JobLasts: a disk with a file of another one's, synced; a job beside it, the power going or not. Plain. A job goes on till it ends; a job whose disk's fuse is set, and whose power comes back. JobLasts: plain. What a job's tables open as; what is there behind a crash. -/
import Derived.Test.YtlpojfgeocpkeaaGreatDoorX39
import Derived.Test.YtlpojfgeocpkeaaGreatDoorX29
import Derived.Test.YtlpojfgeocpkeaaGreatDoorX28
namespace Go.Proofs.YtlpojfgeocpkeaaGreatDoor
open Go.RowKit Go.Sort
set_option linter.unusedVariables false
set_option linter.unusedSimpArgs false
section
variable {R n:Nat}{lv:Int}{ls:List (List Ent)}{base:L→Option Fil}{BN:List L}{s:Dsk}{J:JW}
end
theorem LsAt.more {w:World}{N:Nat}{A:Option Addr}{ls:List EL}(h:LsAt w N A ls){N':Nat}(hN:N≤N'):LsAt w N' A ls:=⟨h.row.more hN,fun x hx=>⟨(h.each x hx).1.more hN,(h.each x hx).2⟩⟩
theorem JK.lsok {K:Nat→Prop}{w:World}{vl:Value}{os:List EL}(h:JK K w vl os):LsOk (os.map (·.l)):=⟨fun l hl=>by
 obtain⟨x,hx,rfl⟩:=List.mem_map.1 hl
 exact h.ok x hx,by rw[List.length_map];exact h.few⟩
theorem right_ok {ls os:List EL}(h:os.map (·.l)=ls.map (fun x=>rightE x.l))(hl:∀x∈ls,x.l.length≤60):(∀x∈os,0<x.l.length→OkL x.l)∧(∀x∈os,x.l.length≤60)∧os.length=ls.length∧∀x∈os,∀e∈x.l,e.seq<18446744073709551616:=by
 have h0:∀x∈os,∃y∈ls,x.l=rightE y.l:=fun x hx=>by
  have hm:x.l∈os.map (·.l):=List.mem_map.2 ⟨x,hx,rfl⟩;rw[h] at hm;obtain⟨y,hy,e⟩:=List.mem_map.1 hm;exact⟨y,hy,e.symm⟩
 have h1:∀x∈os,x.l.length≤60:=fun x hx=>by
  obtain⟨y,hy,e⟩:=h0 x hx;have:=rightE_len y.l;have:=hl y hy;rw[e];omega
 refine⟨fun x hx hp=>?_,h1,by have:=congrArg List.length h;rwa [List.length_map,List.length_map] at this,fun x hx e he=>?_⟩
 ·obtain⟨y,hy,e⟩:=h0 x hx;have h2:=h1 x hx;rw[e] at hp h2 ⊢;exact⟨rightE_strict y.l,fun e he=>(rightE_mem he).2,h2,hp⟩
 ·obtain⟨y,hy,e2⟩:=h0 x hx;rw[e2] at he;have:=(fits_parts (rightE_mem he).2).2.2.2.2.2;omega
end Go.Proofs.YtlpojfgeocpkeaaGreatDoor
namespace Go.Proofs.YtlpojfgeocpkeaaGreatDoor
open Go.RowKit Go.Lib
set_option linter.unusedVariables false
set_option linter.unusedSimpArgs false
section
variable {Q:Dsk→Prop}{A:L→Prop}{n:Nat}{lv:Int}{ls:List (List Ent)}{J:JW}{s:Dsk}
end
section
variable {A:L→Prop}{s:Dsk}
end
end Go.Proofs.YtlpojfgeocpkeaaGreatDoor
namespace Go.Proofs.YtlpojfgeocpkeaaGreatDoor
open Go.RowKit Go.Sort
set_option linter.unusedVariables false
set_option linter.unusedSimpArgs false
section
variable {F0 n:Nat}{lv:Int}{ls:List (List Ent)}{base:L→Option Fil}{BN:List L}{s:Dsk}{J:JW}{Q:Dsk→Prop}{A:L→Prop}
end
section
variable {K:Nat→Prop}{w:World}{g d:Nat}{s:Dsk}{n:Nat}{lv:Int}{vl:Value}{os:List EL}{J:JW}{done over dead:Bool}{ok:Prop}
end
section
variable {K:Nat→Prop}{w:World}{g d:Nat}{s:Dsk}{n:Nat}{lv:Int}{vl:Value}{os:List EL}{J:JW}{done over dead:Bool}{ok:Prop}
end
theorem all_inJ (own:List Ent):own.filter (inP [] [])=own:=by
 rw[List.filter_eq_self];intro e _;unfold inP keepP
 cases e.key<;>rfl
theorem RunI.file_cost2 {n:Nat}{lv:Int}{own:List Ent}{s:TB}{out:L}{bls:List (List (L × L))}{cur:List (L × L)}(h:RunI n lv own s out bls cur)(hn:own.length≤60):(out++s.outL).length≤2*entSz own+20000:=by
 by_cases hne:own=[]
 ·rw[h.outL_nil hne,List.append_nil,h.out_];have h1:=h.blen;rw[hne] at h1;have h2:bls=[]:=List.eq_nil_of_length_eq_zero (by simp at h1;simp[h1]);rw[h2];simp[outs]
 ·rw[h.outL_eq hne];obtain⟨bl',h2⟩:=h.fin_;have hb:=h2.tbd (Nat.le_refl _);have h3:=BB.outX_le s.fin.index;have h4:=h2.ib;have hx:=h2.index;have h5:=hb.is_;have h6:=hb.kl;have h7:=h2.blen;have h8:=outs_cost bl';rw[←h2.out_] at h8
  have h9:bl'.flatten=own.map rowE:=by have:=h2.rows;rwa [List.append_nil] at this
  rw[h9] at h8;have h10:=cost_rows own;rw[←hx] at h4
  have h11:s.fin.tail.length≤s.fin.index.outX.length+200:=by
   unfold TB.tail TB.tail0;simp only[List.length_append,filterL_len,bigL_len];unfold filterN;have e1:=bigX_le s.fin.at_;have e2:=bigX_le (s.fin.at_+(max (10*s.fin.keys.length) 64+7) / 8);have e3:=bigX_le s.fin.t.count;omega
  rw[←List.append_assoc,List.length_append];simp only[List.length_nil] at h7;omega
theorem table_back {n:Nat}{lv:Int}{l:List Ent}(h:OkL l):∃f ix bls,openT (fileT n lv l)=some (f,ix,bls)∧rangeP ix bls [] []=l∧bls.length=ix.length∧(fileT n lv l).length≤98304:=by
 have hX:=runX_I n lv l
 have hT:(runX n lv l).2.2=l:=by
  have:=runX_take (n:=n) (lv:=lv) h.inc h.fit l.length (Nat.le_refl _)
  rwa [List.take_length] at this
 obtain⟨bl,cu,hI,_⟩:=hX.ex;have hR:=hX.run;rw[hT] at hI hR
 have hne:l≠[]:=by
  intro e;have:=h.pos;rw[e] at this;simp at this
 have hln:=h.len;obtain⟨bls,h1,h2⟩:=openT_run hI hR hne (by omega);refine⟨_,_,bls,h1,?_,(ixOf_len bls 0).symm,?_⟩
 ·rw[range_run h2,all_inJ]
 ·have h3:=hI.file_cost2 (by omega);have h4:=entSz_le l h.fit;unfold fileT;omega
section
variable {n:Nat}{lv:Int}{ls:List (List Ent)}{base:L→Option Fil}{BN:List L}{s:Dsk}{J:JW}
theorem doneF_at (hn:n+ls.length<18446744073709551616):∀i,i≤ls.length→∀j,j<i→doneF n lv ls base i (nameT (n+j))=some (wholeF (fileT (n+j) lv (ls.getD j [])))
 | 0,_,j,hj=>absurd hj (by omega)
 | i+1,hi,j,hj=>by
  unfold doneF Dsk.updF
  by_cases e:j=i
  ·rw[e,if_pos rfl]
  ·rw[if_neg (fun q=>e (by have:=nameT_inj (by omega) (by omega) q;omega))]
   exact doneF_at hn i (by omega) j (by omega)
theorem tabsT_at {k j:Nat}(hj:j<k):(tabsT n lv ls k)[j]? = some (finJ (runX (n+j) lv (ls.getD j []))):=by
 unfold tabsT;rw[List.getElem?_map,List.getElem?_range hj];rfl
theorem tabsT_len (k:Nat):(tabsT n lv ls k).length=k:=by unfold tabsT;simp
end
end Go.Proofs.YtlpojfgeocpkeaaGreatDoor
