/- Package table, plain: what is got, and a range. table.Builder: Finish of a done or an empty builder. table.Builder: Add to a done builder. table.Builder: what keeps a run small; Finish of a run. -/
import Derived.Test.YtlpojfgeocpkeaaGreatDoorX28
import Derived.Test.YtlpojfgeocpkeaaGreatDoorTFinJ
import Derived.Test.YtlpojfgeocpkeaaGreatDoorTFinYJ
namespace Go.Proofs.YtlpojfgeocpkeaaGreatDoor
set_option linter.unusedVariables false
set_option linter.unusedSimpArgs false
theorem get_takeWhile {α:Type}(p:α→Bool):∀l:List α,l[(l.takeWhile p).length]? = l.find? fun x=>!p x
 | []=>rfl
 | a::l=>by
  rw[List.takeWhile_cons,List.find?_cons];cases h:p a
  ·simp
  ·simp only[if_true,List.length_cons,List.getElem?_cons_succ,Bool.not_true];exact get_takeWhile p l
theorem drop_takeWhile {α:Type}(p:α→Bool):∀l:List α,l.drop (l.takeWhile p).length=l.dropWhile p
 | []=>rfl
 | a::l=>by
  rw[List.takeWhile_cons,List.dropWhile_cons];cases h:p a
  ·simp
  ·simp only[if_true,List.length_cons,List.drop_succ_cons];exact drop_takeWhile p l
def Srt (l:List (L × L)):Prop:=l.Pairwise fun a b=>lessL a.1 b.1=true
theorem Srt.last_le {b:List (L × L)}(hs:Srt b){x:L × L}(hx:x∈b):x.1=lastK b∨lessL x.1 (lastK b)=true:=by
 have hb:b≠[]:=by rintro rfl;cases hx
 obtain⟨c,y,rfl⟩:∃c x,b=c++[x]:=⟨_,_,(List.dropLast_concat_getLast hb).symm⟩;rw[lastK_snoc];unfold Srt at hs;rw[List.pairwise_append] at hs;rcases List.mem_append.1 hx with h | h
 ·exact .inr (hs.2.2 x h y (by simp))
 ·simp at h;rw[h];exact .inl rfl
theorem less_of_le {a b c:L}(h:a=b∨lessL a b=true)(h2:lessL b c=true):lessL a c=true:=by
 rcases h with rfl | h
 ·exact h2
 ·exact less_trans h h2
theorem not_less_trans {a b c:L}(h:lessL a b=false)(h2:lessL a c=true):lessL c b=false:=by
 rcases hq:lessL c b with _ | _
 ·rfl
 ·rw[less_trans h2 hq] at h;cases h
theorem blk_find (want:L):∀(bls:List (List (L × L))) (a:Nat),bls[seekP (ixOf a bls) want]? = bls.find? fun b=>!lessL (lastK b) want
 | [],a=>rfl
 | b::r,a=>by
  have ih:=blk_find want r (a+(outB b).length);unfold seekP at ih ⊢;unfold ixOf;rw[List.takeWhile_cons,List.find?_cons];cases h:lessL (lastK b) want
  ·simp
  ·simp only[if_true,List.length_cons,List.getElem?_cons_succ,Bool.not_true];exact ih
theorem find_flat (want:L):∀(bls:List (List (L × L))),Srt bls.flatten→(∀b∈bls,b≠[])→((bls.find? fun b=>!lessL (lastK b) want).bind fun b=>b.find? fun r=>!lessL r.1 want)=bls.flatten.find? fun r=>!lessL r.1 want
 | [],_,_=>rfl
 | b::r,hs,hne=>by
  have hs2:=hs;unfold Srt at hs2;rw[List.flatten_cons,List.pairwise_append] at hs2;have ih:=find_flat want r hs2.2.1 (fun c hc=>hne c (List.mem_cons_of_mem _ hc));rw[List.find?_cons,List.flatten_cons,List.find?_append];cases h:lessL (lastK b) want
  ·simp only[Bool.not_false,Option.bind_some];rcases hf:b.find? fun r=>!lessL r.1 want with _ | x
   ·exfalso
    obtain⟨x,hx,e⟩:=lastK_mem (hne b (List.mem_cons_self ..));have:=List.find?_eq_none.1 hf x hx;rw[e,h] at this;exact this rfl
   ·rw[hf];rfl
  ·simp only[Bool.not_true];rw[ih]
   have:b.find? (fun r=>!lessL r.1 want)=none:=by
    rw[List.find?_eq_none];intro x hx;rw[less_of_le (Srt.last_le hs2.1 hx) h];simp
   rw[this];rfl
def getP (f:L)(ix:List (L × L))(bls:List (List (L × L)))(key:L)(at_:Nat):Option Ent :=
 if mayL f key=true then match bls[seekP ix (internalL key at_)]? with
  | none=>none
  | some b=>match b[seekP b (internalL key at_)]? with
   | none=>none
   | some r=>match entryP r.1 r.2 with
    | some e=>if e.key=key then some e else none
    | none=>none
 else none
section
variable {n:Nat}{lv:Int}{own:List Ent}{s:TB}{out:L}{bls:List (List (L × L))}
theorem getP_run (h:RunI n lv own s out bls [])(f key:L)(at_:Nat):getP f (ixOf 0 bls) bls key at_=if mayL f key=true then (own.find? fun e=>!lessL (rowK e) (internalL key at_)).bind fun e=>if e.key=key then some e else none else none:=by
 have hrows:bls.flatten=own.map rowE:=by have:=h.rows;rwa [List.append_nil] at this
 have hff:=find_flat (internalL key at_) bls (by rw[hrows];exact h.sorted) (fun b hb=>(h.vbls b hb).2.1);unfold getP;split
 ·rw[blk_find]
  have e1:(own.map rowE).find? (fun r=>!lessL r.1 (internalL key at_))=(own.find? fun e=>!lessL (rowK e) (internalL key at_)).map rowE:=by
   rw[List.find?_map];rfl
  rw[hrows,e1] at hff;have hmem:∀e,(own.find? fun e=>!lessL (rowK e) (internalL key at_))=some e→e∈own:=fun e he=>List.mem_of_find?_eq_some he
  generalize (own.find? fun e=>!lessL (rowK e) (internalL key at_))=o at *
  generalize (bls.find? fun b=>!lessL (lastK b) (internalL key at_))=q at *
  rcases q with _ | b
  ·cases o with
   | none=>rfl
   | some e=>simp at hff
  ·simp only[Option.bind_some] at hff ⊢
   have hg:b[seekP b (internalL key at_)]? = o.map rowE:=by
    unfold seekP;rw[get_takeWhile];exact hff
   rw[hg]
   cases o with
   | none=>rfl
   | some e =>
    have:=(h.small e (hmem e rfl)).2.2.2;simp only[Option.map_some,rowE,Option.bind_some];rw[entryP_row e (by omega)]
 ·rfl
theorem RunI.srt (h:RunI n lv own s out bls []):own.Pairwise fun a b=>lessL (rowK a) (rowK b)=true:=by
 have:=h.sorted;rw[List.pairwise_map] at this;exact this
theorem RunI.may (h:RunI n lv own s out bls []){e:Ent}(he:e∈own):mayL (filterL s.keys) e.key=true:=may_filter (h.keys e he)
theorem find_at {p:Ent→Bool}{l:List Ent}{i:Nat}{e:Ent}(hi:l[i]? = some e)(hp:p e=true)(hb:∀j x,j<i→l[j]? = some x→p x=false):l.find? p=some e:=by
 rw[List.find?_eq_some_iff_getElem];have hl:=(List.getElem?_eq_some_iff.1 hi);obtain⟨h1,h2⟩:=hl;refine⟨hp,i,h1,h2,fun j hj=>?_⟩;have:=hb j l[j] hj (List.getElem?_eq_getElem (by omega));rw[this];rfl
theorem pair_at {l:List Ent}(h:l.Pairwise fun a b=>lessL (rowK a) (rowK b)=true){i j:Nat}{a b:Ent}(hij:i<j)(ha:l[i]? = some a)(hb:l[j]? = some b):lessL (rowK a) (rowK b)=true:=by
 rw[List.pairwise_iff_getElem] at h;obtain⟨h1,h2⟩:=List.getElem?_eq_some_iff.1 ha;obtain⟨h3,h4⟩:=List.getElem?_eq_some_iff.1 hb;rw[←h2,←h4];exact h i j h1 h3 hij
theorem get_newest (h:RunI n lv own s out bls []){i:Nat}{e:Ent}(hi:own[i]? = some e){at_:Nat}(hat:at_≤18446744073709551615)(hle:e.seq≤at_)(hn:∀j x,j+1=i→own[j]? = some x→x.key≠e.key∨at_<x.seq):getP (filterL s.keys) (ixOf 0 bls) bls e.key at_=some e:=by
 have hm:e∈own:=List.mem_of_getElem? hi;have hs:=h.small e hm;rw[getP_run h,if_pos (h.may hm)]
 have hf:(own.find? fun x=>!lessL (rowK x) (internalL e.key at_))=some e:=by
  refine find_at hi ?_ (fun j x hj hx=>?_)
  ·have:lessL (rowK e) (internalL e.key at_)=false:=by
    rcases hq:lessL (rowK e) (internalL e.key at_) with _ | _
    ·rfl
    ·rcases (internal_less (by omega) hat).1 hq with h1 | h1
     ·rw[less_irrefl] at h1;cases h1
     ·omega
   simp[this]
  ·have hp:lessL (rowK x) (internalL e.key at_)=true:=by
    have hx2:=h.small x (List.mem_of_getElem? hx);obtain⟨k,hk⟩:∃k,i=k+1:=⟨i-1,by omega⟩;have hil:=(List.getElem?_eq_some_iff.1 hi).1;obtain⟨y,hy⟩:∃y,own[k]? = some y:=⟨_,List.getElem?_eq_getElem (by omega)⟩;have hy2:=h.small y (List.mem_of_getElem? hy);have hye:=pair_at h.srt (by omega) hy hi
    have hyw:lessL (rowK y) (internalL e.key at_)=true:=by
     rcases (internal_less (by omega) (by omega)).1 hye with h1 | ⟨h1,h2⟩
     ·exact internal_lt_key _ _ h1
     ·rcases hn k y hk.symm hy with h3 | h3
      ·exact absurd h1 h3
      ·exact (internal_less (by omega) hat).2 (.inr ⟨h1,h3⟩)
    rcases Nat.lt_or_ge j k with hjk | hjk
    ·exact less_trans (pair_at h.srt hjk hx hy) hyw
    ·obtain rfl:j=k:=by omega
     rw[hx] at hy;injection hy with hy;rw[hy];exact hyw
   simp[hp]
 rw[hf];simp
theorem get_own (h:RunI n lv own s out bls []){i:Nat}{e:Ent}(hi:own[i]? = some e):getP (filterL s.keys) (ixOf 0 bls) bls e.key e.seq=some e:=by
 have hs:=h.small e (List.mem_of_getElem? hi);refine get_newest h hi (by omega) (Nat.le_refl _) (fun j x hj hx=>?_);have hx2:=h.small x (List.mem_of_getElem? hx);have:=pair_at h.srt (by omega) hx hi;rcases (internal_less (by omega) (by omega)).1 this with h1 | ⟨h1,h2⟩
 ·left
  intro e1;rw[e1,less_irrefl] at h1;cases h1
 ·exact .inr h2
end
def entE (r:L × L):Ent:=(entryP r.1 r.2).getD ent0
def keepP (to_:L)(e:Ent):Bool:=decide (to_=[])||lessL e.key to_
def rowsP (first:L)(bls:List (List (L × L))):List (L × L):=bls.flatMap fun b=>b.drop (seekP b first)
def rangeP (ix:List (L × L))(bls:List (List (L × L)))(from_ to_:L):List Ent:=((rowsP (internalL from_ 18446744073709551615) (bls.drop (seekP ix (internalL from_ 18446744073709551615)))).map entE).takeWhile (keepP to_)
theorem drop_all {p:L × L→Bool}:∀l:List (L × L),(∀x∈l,p x=false)→l.dropWhile p=l
 | [],_=>rfl
 | a::l,h=>by rw[List.dropWhile_cons,h a (List.mem_cons_self ..)];simp
theorem dropWhile_app {p:L × L→Bool}:∀(a b:List (L × L)),(∃x∈a,p x=false)→(a++b).dropWhile p=a.dropWhile p++b
 | [],b,⟨x,hx,_⟩=>by cases hx
 | y::a,b,⟨x,hx,hp⟩=>by
  rw[List.cons_append,List.dropWhile_cons,List.dropWhile_cons];cases h:p y
  ·simp
  ·simp only[if_true];refine dropWhile_app a b ⟨x,?_,hp⟩;rcases List.mem_cons.1 hx with rfl | hx
   ·rw[h] at hp;cases hp
   ·exact hx
theorem dropWhile_app2 {p:L × L→Bool}:∀(a b:List (L × L)),(∀x∈a,p x=true)→(a++b).dropWhile p=b.dropWhile p
 | [],b,_=>rfl
 | y::a,b,h=>by
  rw[List.cons_append,List.dropWhile_cons,h y (List.mem_cons_self ..)];simp only[if_true];exact dropWhile_app2 a b (fun x hx=>h x (List.mem_cons_of_mem _ hx))
theorem rowsP_all (first:L):∀bls:List (List (L × L)),(∀x∈bls.flatten,lessL x.1 first=false)→rowsP first bls=bls.flatten
 | [],_=>rfl
 | b::r,h=>by
  have ih:=rowsP_all first r (fun x hx=>h x (by rw[List.flatten_cons];exact List.mem_append_right _ hx))
  have h1:b.drop (seekP b first)=b:=by
   unfold seekP;rw[drop_takeWhile];exact drop_all b (fun x hx=>h x (by rw[List.flatten_cons];exact List.mem_append_left _ hx))
  unfold rowsP at ih ⊢;rw[List.flatMap_cons,ih,h1,List.flatten_cons]
theorem rowsP_drop (first:L):∀(bls:List (List (L × L))) (a:Nat),Srt bls.flatten→(∀b∈bls,b≠[])→rowsP first (bls.drop (seekP (ixOf a bls) first))=bls.flatten.dropWhile fun r=>lessL r.1 first
 | [],a,_,_=>rfl
 | b::r,a,hs,hne=>by
  have hs2:=hs;unfold Srt at hs2;rw[List.flatten_cons,List.pairwise_append] at hs2
  have ih:=rowsP_drop first r (a+(outB b).length) hs2.2.1 (fun c hc=>hne c (List.mem_cons_of_mem _ hc))
  unfold seekP ixOf;rw[List.takeWhile_cons,List.flatten_cons]
  cases h:lessL (lastK b) first
  ·simp only[h,Bool.false_eq_true,if_false,List.length_nil,List.drop_zero];obtain⟨x,hx,e⟩:=lastK_mem (hne b (List.mem_cons_self ..))
   have hall:∀y∈r.flatten,lessL y.1 first=false:=fun y hy=>not_less_trans h (by rw[←e];exact hs2.2.2 x hx y hy)
   have h2:=rowsP_all first r hall
   rw[dropWhile_app _ _ ⟨x,hx,by rw[e];exact h⟩];unfold rowsP at h2 ⊢;rw[List.flatMap_cons,h2]
   congr 1
   unfold seekP;rw[drop_takeWhile]
  ·simp only[h,if_true,List.length_cons,List.drop_succ_cons];rw[dropWhile_app2 _ _ (fun x hx=>less_of_le (Srt.last_le hs2.1 hx) h)];exact ih
theorem filter_drop {p:Ent→Bool}:∀l:List Ent,(l.Pairwise fun a b=>p a=false→p b=false)→l.dropWhile p=l.filter fun e=>!p e
 | [],_=>rfl
 | a::l,h=>by
  rw[List.pairwise_cons] at h;rw[List.dropWhile_cons];cases hp:p a
  ·simp only[Bool.false_eq_true,if_false];rw[List.filter_eq_self.2];intro x hx;rcases List.mem_cons.1 hx with rfl | hx
   ·simp[hp]
   ·simp[h.1 x hx hp]
  ·simp only[if_true];rw[List.filter_cons,hp];simp only[Bool.not_true,Bool.false_eq_true,if_false];exact filter_drop l h.2
theorem filter_take {p:Ent→Bool}:∀l:List Ent,(l.Pairwise fun a b=>p a=false→p b=false)→l.takeWhile p=l.filter p
 | [],_=>rfl
 | a::l,h=>by
  rw[List.pairwise_cons] at h;rw[List.takeWhile_cons,List.filter_cons];cases hp:p a
  ·simp only[Bool.false_eq_true,if_false];rw[List.filter_eq_nil_iff.2];intro x hx;simp[h.1 x hx hp]
  ·simp only[if_true];rw[filter_take l h.2]
def inP (from_ to_:L)(e:Ent):Bool:=!lessL e.key from_&&keepP to_ e
theorem range_run {n:Nat}{lv:Int}{own:List Ent}{s:TB}{out:L}{bls:List (List (L × L))}(h:RunI n lv own s out bls [])(from_ to_:L):rangeP (ixOf 0 bls) bls from_ to_=own.filter (inP from_ to_):=by
 have hrows:bls.flatten=own.map rowE:=by have:=h.rows;rwa [List.append_nil] at this
 unfold rangeP;rw[rowsP_drop _ bls 0 (by rw[hrows];exact h.sorted) (fun b hb=>(h.vbls b hb).2.1),hrows,List.dropWhile_map,List.map_map]
 have hle:∀ {a b:Ent},lessL (rowK a) (rowK b)=true→a∈own→b∈own→a.key=b.key∨lessL a.key b.key=true:=fun hl ha hb=>by
  rcases (internal_less (by have:=(h.small _ ha).2.2.2;omega) (by have:=(h.small _ hb).2.2.2;omega)).1 hl with h1 | h1
  ·exact .inr h1
  ·exact .inl h1.1
 have hsrt:own.Pairwise fun a b=>a.key=b.key∨lessL a.key b.key=true:=by
  have:=h.srt;rw[List.pairwise_iff_getElem] at this ⊢;intro i j hi hj hij;exact hle (this i j hi hj hij) (List.getElem_mem hi) (List.getElem_mem hj)
 have hp:∀e∈own,lessL (rowE e).1 (internalL from_ 18446744073709551615)=lessL e.key from_:=fun e he=>by
  have hs:=h.small e he;rcases hq:lessL e.key from_ with _ | _
  ·rcases hq2:lessL (rowE e).1 (internalL from_ 18446744073709551615) with _ | _
   ·rfl
   ·rcases (internal_less (by omega) (Nat.le_refl _)).1 hq2 with h1 | h1
    ·rw[h1] at hq;cases hq
    ·omega
  ·exact internal_lt_key _ _ hq
 have hd:own.dropWhile ((fun r=>lessL r.1 (internalL from_ 18446744073709551615)) ∘ rowE)=own.filter fun e=>!lessL e.key from_:=by
  rw[filter_drop own]
  ·refine List.filter_congr (fun e he=>?_);simp only[Function.comp];rw[hp e he]
  ·rw[List.pairwise_iff_getElem] at hsrt ⊢;intro i j hi hj hij;simp only[Function.comp];rw[hp _ (List.getElem_mem hi),hp _ (List.getElem_mem hj)];intro h1;rcases hsrt i j hi hj hij with h2 | h2
   ·rw[←h2];exact h1
   ·exact not_less_trans h1 h2
 rw[hd]
 have hm:(own.filter fun e=>!lessL e.key from_).map (entE ∘ rowE)=own.filter fun e=>!lessL e.key from_:=by
  have:∀l:List Ent,(∀e∈l,e.seq≤18446744073709551615)→l.map (entE ∘ rowE)=l:=by
   intro l
   induction l with
   | nil=>intro _;rfl
   | cons a l ih =>
    intro hl;rw[List.map_cons,ih (fun e he=>hl e (List.mem_cons_of_mem _ he))];have h1:=entryP_row a (hl a (List.mem_cons_self ..))
    have h2:(entE ∘ rowE) a=a:=by
     show (entryP (rowK a) (rowV a)).getD ent0=a;rw[h1];rfl
    rw[h2]
  exact this _ (fun e he=>by have:=(h.small e (List.mem_filter.1 he).1).2.2.2;omega)
 rw[hm,filter_take]
 ·rw[List.filter_filter];refine List.filter_congr (fun e he=>?_);unfold inP;rw[Bool.and_comm]
 ·refine List.Pairwise.filter _ ?_;refine hsrt.imp (fun {a b} hab=>?_);unfold keepP;intro h1;simp only[Bool.or_eq_false_iff] at h1 ⊢;refine⟨h1.1,?_⟩;rcases hab with h2 | h2
  ·rw[←h2];exact h1.2
  ·exact not_less_trans h1.2 h2
end Go.Proofs.YtlpojfgeocpkeaaGreatDoor
namespace Go.Proofs.YtlpojfgeocpkeaaGreatDoor
open Go.RowKit
set_option linter.unusedVariables false
set_option linter.unusedSimpArgs false
set_option maxRecDepth 100000 in
set_option maxHeartbeats 1000000 in
theorem Fin_err {w:World}{g:Nat}{s:TB}{vb1 vs1 vb2 vs2 vk vp:Value}(hB:Blk w g 159 (tbC s vb1 vs1 vb2 vs2 vk vp))(hd:s.done=true∨s.t.count=0) :
  Calls Tryz.prog 89 #[.pointer (some ⟨g,0,none⟩)] w fun r w'=>r=.returned (.tuple #[.string ⟨#[]⟩,.agg (tiC ⟨0,0,0,0,[],[],0,0⟩),.int .i64 9])∧Below w.heap.size w w':=by
 have c2:w.cell? ⟨g,2,none⟩=some (.int .i64 (s.t.count:Nat)):=hB.cell 2;have hlt:=hB.lt;have hA:Below w.heap.size w (w.alloc (.cells (tiC ⟨0,0,0,0,[],[],0,0⟩) 51)):=(Below.refl _ _).alloc (Nat.le_refl _) _;have hR:Blk (w.alloc (.cells (tiC ⟨0,0,0,0,[],[],0,0⟩) 51)) w.heap.size 51 (tiC ⟨0,0,0,0,[],[],0,0⟩):=Blk.new _ _ _
 rcases hdn:s.done with _ | _
 ·have hc0:s.t.count=0:=hd.resolve_left (by rw[hdn];decide);have c20:w.cell? ⟨g,20,none⟩=some (.bool false):=(hB.cell 20).trans (by simp[tbC,hdn]);rw[hc0] at c2;replace hdn:=Lib.hid hdn;replace hc0:=Lib.hid hc0;clear hd
  go_enter Tryz.func89,Tryz.ntmps89
  go_wp2_with fail
  exact bodyPost_ret (v:=.tuple #[.string ⟨#[]⟩,.agg (tiC ⟨0,0,0,0,[],[],0,0⟩),.int .i64 9]) (results_tct rfl _ _ w.heap.size _ _ _ rfl rfl rfl (load_ti hR rfl)) rfl ⟨rfl,hA⟩
 ·have c20:w.cell? ⟨g,20,none⟩=some (.bool true):=(hB.cell 20).trans (by simp[tbC,hdn]);replace hdn:=Lib.hid hdn;clear hd
  go_enter Tryz.func89,Tryz.ntmps89
  go_wp2_with fail
  exact bodyPost_ret (v:=.tuple #[.string ⟨#[]⟩,.agg (tiC ⟨0,0,0,0,[],[],0,0⟩),.int .i64 9]) (results_tct rfl _ _ w.heap.size _ _ _ rfl rfl rfl (load_ti hR rfl)) rfl ⟨rfl,hA⟩
theorem varL1_pos (n:Nat):1≤(varL1 n).length:=by
 unfold varL1
 split<;>simp
theorem enc_pos (s:BB)(k v:L):1≤(s.enc k v).length:=by
 unfold BB.enc;have:=varL1_pos (s.lead k);rw[List.length_append];omega
theorem foldB_len_ge (es:List (L × L)):es.length≤(foldB es).b.length:=by
 induction es using snocRec with
 | nil=>simp
 | snoc es e ih =>
  rw[foldB_snoc];unfold BB.put;have:=enc_pos (foldB es) e.1 e.2;simp only[List.length_append,List.length_singleton];omega
theorem ixOf_key:∀(bls:List (List (L × L))) (a:Nat) (x:L × L),x∈ixOf a bls→∃b∈bls,x.1=lastK b
 | [],a,x,h=>by cases h
 | b::r,a,x,h=>by
  unfold ixOf at h;rcases List.mem_cons.1 h with rfl | h
  ·exact⟨b,List.mem_cons_self ..,rfl⟩
  ·obtain⟨c,hc,e⟩:=ixOf_key r _ x h;exact⟨c,List.mem_cons_of_mem _ hc,e⟩
section
variable {n:Nat}{lv:Int}{own:List Ent}{s:TB}{out:L}{bls:List (List (L × L))}{cur:List (L × L)}
theorem RunI.key_len (h:RunI n lv own s out bls cur){x:L × L}(hx:x∈bls.flatten++cur):x.1.length≤139:=by
 rw[h.rows] at hx;obtain⟨y,hy,rfl⟩:=List.mem_map.1 hx;exact rowK_len (h.small y hy).1
theorem lastK_le (l:List (L × L)){m:Nat}(h:∀x∈l,x.1.length≤m):(lastK l).length≤m:=by
 rcases l.eq_nil_or_concat with rfl | ⟨c,x,rfl⟩
 ·simp[lastK]
 ·have e:lastK (c.concat x)=x.1:=by rw[List.concat_eq_append];exact lastK_snoc c x
  rw[e];exact h x (by simp)
theorem RunI.tbd (h:RunI n lv own s out bls cur){M:Nat}(hM:own.length≤M):TBd s M:=by
 have hcs:=h.csz;have hd:=h.data;have hst:=foldB_starts cur;have hle:=foldB_starts_le cur;have hge:=foldB_len_ge cur;have hct:=foldB_count cur;have hbl:=h.blen;have hix:=h.index;have hib:=h.ib;have hixs:=foldB_starts (ixOf 0 bls);have hixc:=foldB_count (ixOf 0 bls);rw[ixOf_len] at hixs hixc;have hkey:∀b∈bls,(lastK b).length≤139:=fun b hb=>lastK_le b (fun x hx=>h.key_len (List.mem_append_left _ (List.mem_flatten.2 ⟨b,hb,hx⟩)));unfold BB.size at hcs;refine⟨?_,?_,?_,?_,?_,?_,?_,?_,?_,?_,?_,?_,?_,?_⟩
 ·rw[hd];omega
 ·rw[hd];omega
 ·rw[hd];intro m hm;have:=hle m hm;omega
 ·rw[hd];omega
 ·rw[hd,foldB_lastK];exact Nat.le_trans (lastK_le cur (fun x hx=>h.key_len (List.mem_append_right _ hx))) (by omega)
 ·rw[hix];omega
 ·rw[hix];omega
 ·rw[hix];omega
 ·rw[hix,foldB_lastK];refine Nat.le_trans (lastK_le _ (fun x hx=>?_):_≤139) (by omega);obtain⟨b,hb,e⟩:=ixOf_key bls 0 x hx;rw[e];exact hkey b hb
 ·rw[h.at_];omega
 ·rw[h.parts,List.length_map];omega
 ·have:=h.kl;omega
 ·rw[h.count];exact hM
 ·intro h0;rw[h.count] at h0;have:own=[]:=List.eq_nil_of_length_eq_zero h0;rw[h.tlast,this];rfl
theorem RunI.parts_len (h:RunI n lv own s out bls cur):∀p∈s.parts,p.length≤1000:=by
 intro p hp;rw[h.parts] at hp;obtain⟨b,hb,rfl⟩:=List.mem_map.1 hp;exact (h.vbls b hb).2.2
theorem RunI.ix_starts (h:RunI n lv own s out bls cur):∀m∈s.index.starts,m≤s.index.b.length:=by
 rw[h.index];exact foldB_starts_le _
theorem RunI.outL_eq (h:RunI n lv own s out bls cur)(hne:own≠[]):s.outL=s.rest++s.fin.tail:=by
 unfold TB.outL;rw[if_neg];rintro (h1 | h1)
 ·rw[h.done] at h1;cases h1
 ·rw[h.count] at h1;exact hne (List.eq_nil_of_length_eq_zero h1)
theorem RunI.outL_nil (h:RunI n lv own s out bls cur)(hne:own=[]):s.outL=[]:=by
 unfold TB.outL;rw[if_pos (.inr (by rw[h.count,hne];rfl))]
set_option maxHeartbeats 1000000 in
theorem Fin_run {w:World}{F:Nat→Prop}{g:Nat}(hT:TBIn w F g s)(hG:Gl w)(hG0:¬F 1)(hG1:¬F 4)(h:RunI n lv own s out bls cur)(hne:own≠[])(hM:own.length≤1073741824) :
  Calls Tryz.prog 89 #[.pointer (some ⟨g,0,none⟩)] w fun r w'=>r=.returned (.tuple #[.string (bs s.outL),.agg (tiC { s.t with size:=out.length+s.outL.length }),.int .i64 0])∧(∃s',s'.done=true∧∃a b c d e f,Blk w' g 159 (tbC s' a b c d e f))∧KeptBut w w' F:=by
 have hb:=h.tbd hM
 have hcount:s.t.count≠0:=by
  rw[h.count];exact fun e=>hne (List.eq_nil_of_length_eq_zero e)
 have hpl:=h.parts_len;have hxs:=h.ix_starts;have hks:=h.ks;have hbl:=h.blen;have hout:=h.outL_eq hne;have hat:=h.at_;rcases Nat.eq_zero_or_pos s.data.count with h0 | h0
 ·have hrest:s.rest=[]:=by unfold TB.rest;rw[if_neg (by omega)]
  have hfin:s.fin=s:=by unfold TB.fin;rw[if_neg (by omega)]
  rw[hrest,hfin,List.nil_append] at hout
  refine (Fin_no hT hG hG0 hG1 (by have:=hb.pl;omega) (fun p hp=>by have:=hpl p hp;omega) h.done hcount h0 (fun k hk=>by have:=hks k hk;omega) (by have:=hb.kl;omega) (by have:=hb.ib;omega) (by have:=hb.is_;omega) (by have:=hb.ic;omega) (fun m hm=>by have:=hxs m hm;have:=hb.ib;omega) (by have:=hb.at_;omega) (by have:=hb.tc;omega)).mono ?_
  rintro r w' ⟨rfl,⟨a,b,c,d,e,f,hB⟩,hk⟩;refine⟨?_,⟨_,rfl,a,b,c,d,e,f,hB⟩,hk⟩;rw[hout,hat]
 ·have hcur:cur≠[]:=by
   rintro rfl;rw[h.data] at h0;exact absurd h0 (by decide)
  have he:=h.ends_ hcur;have heb:=he.tbd hM;have hpl2:=he.parts_len;have hxs2:=he.ix_starts;have hks2:=he.ks
  have hrest:s.rest=s.data.out:=by unfold TB.rest;rw[if_pos h0]
  have hfin:s.fin=s.ends:=by unfold TB.fin;rw[if_pos h0]
  rw[hrest,hfin] at hout
  refine (Fin_yes hT hG hG0 hG1 (by have:=heb.pl;omega) (fun p hp=>by have:=hpl2 p hp;omega) h.done hcount h0 (by have:=hb.b;omega) (by have:=hb.st;omega) (fun m hm=>by have:=hb.se m hm;omega) (by have:=hb.ct;omega) (by have:=hb.ib;omega) (by have:=hb.is_;omega) (by have:=hb.ic;omega) (hb.il) (by have:=hb.at_;omega) (by have:=hb.pl;omega)
   (fun k hk=>by have:=hks2 k hk;omega) (by have:=heb.kl;omega) (by have:=heb.ib;omega) (by have:=heb.is_;omega) (by have:=heb.ic;omega) (fun m hm=>by have:=hxs2 m hm;have:=heb.ib;omega) (by have:=heb.at_;omega) (by have:=heb.tc;omega)).mono ?_
  rintro r w' ⟨rfl,⟨a,b,c,d,e,f,hB⟩,hk⟩;refine⟨?_,⟨_,rfl,a,b,c,d,e,f,hB⟩,hk⟩
  have e1:s.ends.at_+s.ends.tail.length=out.length+s.outL.length:=by
   rw[he.at_,hout,List.length_append,List.length_append];omega
  rw[hout] at e1 ⊢;rw[e1];rfl
end
end Go.Proofs.YtlpojfgeocpkeaaGreatDoor
