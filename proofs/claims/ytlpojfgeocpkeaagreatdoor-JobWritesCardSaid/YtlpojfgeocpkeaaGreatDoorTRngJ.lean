/- table.Table: Range, All. -/
import Derived.Test.YtlpojfgeocpkeaaGreatDoorX31
namespace Go.Proofs.YtlpojfgeocpkeaaGreatDoor
open Go.RowKit
set_option linter.unusedVariables false
set_option linter.unusedSimpArgs false
def entsC (l:List Ent):List Value:=(l.map fun e=>(entC e).toList).flatten
theorem entsC_app (a b:List Ent):entsC (a++b)=entsC a++entsC b:=by simp[entsC]
theorem entsC_one (e:Ent):entsC [e]=[.string (bs e.key),.string (bs e.value),.int .u64 (e.seq:Nat),.bool e.gone]:=rfl
def OwnE (w:World)(B:Nat)(v:Value)(l:List Ent):Prop:=w.ownsRow B 46 4 v l.length (entsC l)
theorem OwnE.snoc {w:World}{B:Nat}{v:Value}{l:List Ent}(o:Ent)(h:w.ownsRow B 46 4 v (l.length+1) (entsC l++[.string (bs o.key),.string (bs o.value),.int .u64 (o.seq:Nat),.bool o.gone])):OwnE w B v (l++[o]):=by
 unfold OwnE;rw[entsC_app,entsC_one,List.length_append];exact h
theorem OwnE.nil (w:World)(B:Nat):OwnE w B (.slice none 0 0) []:=World.ownsRow_nil _ _ _ 4
theorem OwnE.form {w:World}{B:Nat}{v:Value}{l:List Ent}(h:OwnE w B v l):∃A cap,v=.slice A l.length cap:=by
 rcases h.2 with⟨rfl,e⟩ | ⟨g,cap,cur,rfl,_⟩
 ·exact⟨none,0,by rw[e]⟩
 ·exact⟨_,cap,rfl⟩
theorem entry_info:(Tryz.prog.info? 46).map (fun i=>(i.zero,i.size,i.bytes))=some (some (.agg #[.string ⟨#[]⟩,.string ⟨#[]⟩,.int .u64 0,.bool false]),4,48):=by kernel_rfl
theorem reads4 (w:World)(t:TypeId)(x y z u:Value):Reads (w.alloc (.cells #[x,y,z,u] t)) (w.heap.size+1) 4 (some ⟨w.heap.size,0,none⟩) 1 [x,y,z,u]:=by
 refine⟨rfl,fun _=>⟨_,rfl,by simp,fun j v hv=>?_⟩⟩
 have e1:(⟨w.heap.size,0,none⟩:Addr).add j=⟨w.heap.size,j,none⟩:=by cases j<;>simp[Addr.add]
 rw[e1,World.cell?_alloc_new]
 have hj:j<4:=by
  rcases Nat.lt_or_ge j 4 with h | h
  ·exact h
  ·rw[List.getElem?_eq_none (by simp;omega)] at hv;cases hv
 match j,hj with
 | 0,_=>exact hv
 | 1,_=>exact hv
 | 2,_=>exact hv
 | 3,_=>exact hv
theorem OwnE.below {w w':World}{B:Nat}{v:Value}{l:List Ent}(h:OwnE w B v l)(hb:Below w.heap.size w w'):OwnE w' B v l:=own_block h (fun k hk=>hb.block k (own_lt h k hk).2)
def restR (first to_:L)(b:List (L × L))(bls:List (List (L × L))):List Ent:=((b++rowsP first bls).map entE).takeWhile (keepP to_)
theorem restR_cons {first to_:L}{r:L × L}{b:List (L × L)}{bls:List (List (L × L))}:restR first to_ (r::b) bls=if keepP to_ (entE r)=true then entE r::restR first to_ b bls else []:=by
 unfold restR;rw[List.cons_append,List.map_cons,List.takeWhile_cons]
theorem restR_blk {first to_:L}{b:List (L × L)}{bls:List (List (L × L))}:restR first to_ [] (b::bls)=restR first to_ (b.drop (seekP b first)) bls:=by
 unfold restR rowsP;rw[List.flatMap_cons,List.nil_append]
theorem restR_len (first to_:L):∀(bls:List (List (L × L))) (b:List (L × L)),b.length≤1048576→(∀c∈bls,c.length≤1048576)→(restR first to_ b bls).length≤1048576*(bls.length+1)
 | [],b,hb,_=>by
  have h:restR first to_ b []=(b.map entE).takeWhile (keepP to_):=by unfold restR rowsP;simp
  rw[h];have:=(List.takeWhile_sublist (keepP to_) (l:=b.map entE)).length_le;rw[List.length_map] at this;simp only[List.length_nil];omega
 | c::r,b,hb,hc=>by
  have ih:=restR_len first to_ r (c.drop (seekP c first)) (by have:=hc c (List.mem_cons_self ..);rw[List.length_drop];omega) (fun x hx=>hc x (List.mem_cons_of_mem _ hx))
  rw[←restR_blk] at ih
  have h1:∀(l m:List Ent) (p:Ent→Bool),((l++m).takeWhile p).length≤l.length+(m.takeWhile p).length:=by
   intro l m p
   induction l with
   | nil=>simp
   | cons x l ih2 =>
    rw[List.cons_append,List.takeWhile_cons];split
    ·simp only[List.length_cons];omega
    ·simp
  have h2:=h1 (b.map entE) ((rowsP first (c::r)).map entE) (keepP to_)
  rw[List.length_map] at h2
  have h3:(restR first to_ [] (c::r)).length=(((rowsP first (c::r)).map entE).takeWhile (keepP to_)).length:=by unfold restR;rw[List.nil_append]
  unfold restR at ih ⊢;rw[List.map_append];simp only[List.nil_append] at ih;simp only[List.length_cons];omega
set_option maxRecDepth 100000 in
set_option maxHeartbeats 4000000 in
theorem Range_any {w:World}{gt:Nat}{f:L}{ix:List (L × L)}{bls:List (List (L × L))}(h:TTAt w gt f ix bls)(hl:bls.length=ix.length)(hG:Gl w)(from_ to_:ByteArray)(hk:from_.size≤1048576) :
  Calls Tryz.prog 90 #[.pointer (some ⟨gt,0,none⟩),.string from_,.string to_] w fun e w'=>∃v,e=.returned v∧OwnE w' w.heap.size v (rangeP ix bls from_.data.toList to_.data.toList)∧Below w.heap.size w w':=by
 obtain⟨i0,hi0,hz0,hz1,hz2⟩:=info_parts entry_info;obtain⟨gi,A,cap,gs,hB,hI,hr,hgl,hbk⟩:=id h;have c1:w.cell? ⟨gt,1,none⟩=some (.pointer (some ⟨gi,0,none⟩)):=hB.cell 1;have c2:w.cell? ⟨gt,2,none⟩=some (.slice A gs.length cap):=hB.cell 2;have hlt:=hB.lt;have hGl:=hG.lt;have hint:=Lib.hid (Internal_any from_ 18446744073709551615 w hG hk (by decide))
 have hP:rangeP ix bls from_.data.toList to_.data.toList=restR (internalL from_.data.toList 18446744073709551615) to_.data.toList [] (bls.drop (seekP ix (internalL from_.data.toList 18446744073709551615))):=by
  unfold rangeP restR;rw[List.nil_append]
 have hsle:=seekP_le ix (internalL from_.data.toList 18446744073709551615)
 have hixl:ix.length≤1048576:=by obtain⟨_,_,_,_,_,h3,_⟩:=hI;exact h3
 have hbll:∀c∈bls,c.length≤1048576:=by
  intro c hc;obtain⟨j,hj,rfl⟩:=List.mem_iff_getElem.1 hc;have hb:=hbk j (gs[j]'(by omega)) bls[j] (List.getElem?_eq_getElem (by omega)) (List.getElem?_eq_getElem hj);obtain⟨_,_,_,_,_,h3,_⟩:=hb;exact h3
 generalize internalL from_.data.toList 18446744073709551615=first at *
 go_enter Tryz.func90,Tryz.ntmps90
 go_wp2_with fail
 refine hint.out.mono ?_;rintro e w1 ⟨rfl,hb1⟩;have hz1':=hb1.size;have d1:=(hb1.cell (p:=⟨gt,1,none⟩) hlt).trans c1
 have hsk:=Lib.hid (Seek_any (hI.below hb1) first)
 go_wp2_with fail
 refine hsk.out.mono ?_;rintro e w2 ⟨rfl,hb2⟩;have hb02:=hb1.trans (hb2.mono hz1');clear hb2 hb1 d1 hsk hint
 have hRl:=restR_len first to_.data.toList (bls.drop (seekP ix first)) [] (by simp) (fun c hc=>hbll c (List.mem_of_mem_drop hc))
 rw[←hP,List.length_drop] at hRl
 generalize seekP ix first=i0' at *
 go_wp2_with fail
 go_loopw [7,9] (fun ov iv wr=>∃i done,i≤ix.length∧iv=.int .i64 (i:Nat)∧rangeP ix bls from_.data.toList to_.data.toList=done++restR first to_.data.toList [] (bls.drop i)∧OwnE wr w.heap.size ov done∧Below w.heap.size w wr) (fun _ iv _=>ix.length-(intOf iv).toNat)
 case atStart=>exact⟨i0',[],hsle,rfl,by rw[hP];rfl,OwnE.nil _ _,hb02⟩
 case round =>
  obtain⟨i,done,hi,rfl,hR,hO,hbr⟩:=hrel
  have hzr:=hbr.size;obtain⟨Ao,co,rfl⟩:=hO.form;have d2:=(hbr.cell (p:=⟨gt,2,none⟩) hlt).trans c2
  by_cases hil:i<ix.length
  ·have hilt:i<gs.length:=by omega
   have hilt':((i:Nat):Int)<(gs.length:Nat):=by omega
   obtain⟨g,hg⟩:∃g,gs[i]? = some g:=⟨_,List.getElem?_eq_getElem hilt⟩;obtain⟨b,hb⟩:∃b,bls[i]? = some b:=⟨_,List.getElem?_eq_getElem (by omega)⟩;have hbg:=hbk i g b hg hb;obtain⟨ad,u,rfl,hadB,hu,hcell⟩:=hr.at_ hilt;rw[List.getElem?_map,hg] at hu;injection hu with hu;subst hu;obtain⟨ad0,u0,e0,_,_,hc0⟩:=hr.at_ (k:=0) (by omega);injection e0 with e0;subst e0;obtain⟨bb,oo,rfl⟩:=plain_cell hc0;clear hc0;rw[add_off] at hcell;have hadB':bb<w.heap.size:=hadB;have d3:=(hbr.cell (p:=⟨bb,oo+i,none⟩) hadB').trans hcell
   have hdr:bls.drop i=b::bls.drop (i+1):=by
    rw[List.drop_eq_getElem_cons (by omega)];rw[List.getElem?_eq_getElem (by omega)] at hb;injection hb with hb;rw[hb]
   rw[hdr,restR_blk] at hR
   have hbl:b.length≤1048576:=by obtain⟨_,_,_,_,_,h3,_⟩:=hbg;exact h3
   have hsb:=seekP_le b first
   have hskb:=Lib.hid (Seek_any (hbg.below hbr) first)
   generalize seekP b first=j0 at *
   replace hb:=Lib.hid hb;replace hg:=Lib.hid hg;replace hdr:=Lib.hid hdr;replace hP:=Lib.hid hP;replace hR:=Lib.hid hR;go_wp2_with fail
   refine hskb.out.mono ?_;rintro e w3 ⟨rfl,hb3⟩;have hO3:=hO.below hb3;have hb03:=hbr.trans (hb3.mono hzr);clear hb3 hskb d2 d3;go_wp2_with fail
   go_loopw [7,11] (fun ov jv wq=>∃j done,j≤b.length∧jv=.int .i64 (j:Nat)∧rangeP ix bls from_.data.toList to_.data.toList=done++restR first to_.data.toList (b.drop j) (bls.drop (i+1))∧OwnE wq w.heap.size ov done∧Below w.heap.size w wq) (fun _ jv _=>b.length-(intOf jv).toNat)
   case atStart=>exact⟨j0,done,hsb,rfl,hR.out,hO3,hb03⟩
   case round =>
    obtain⟨j,dn,hj,rfl,hRj,hOj,hbq⟩:=hrel;have hzq:=hbq.size;obtain⟨Aq,cq,rfl⟩:=hOj.form;have hlen:=Lib.hid (Len_any (hbg.below hbq))
    by_cases hjl:j<b.length
    ·have hjl':((j:Nat):Int)<(b.length:Nat):=by omega
     obtain⟨kk,vv,hkv⟩:∃k v,b[j]? = some (k,v):=⟨b[j].1,b[j].2,List.getElem?_eq_getElem hjl⟩
     have hdj:b.drop j=(kk,vv)::b.drop (j+1):=by
      rw[List.drop_eq_getElem_cons (by omega)];rw[List.getElem?_eq_getElem (by omega)] at hkv;injection hkv with hkv;rw[hkv]
     rw[hdj,restR_cons] at hRj;have hat:=Lib.hid fun W (hW:Below w.heap.size w W)=>At_some (hbg.below hW) j kk vv hkv;obtain⟨hkl,hvl⟩:=bk_small hbg hkv;have hent:=Lib.hid fun W=>entry_any (bs kk) (bs vv) W (by rw[bs_size];omega) (by rw[bs_size];omega);rw[bs_data,bs_data] at hent
     have hdl:dn.length≤1048576*1048577:=by
      have h9:=congrArg List.length hRj;rw[List.length_append] at h9;omega
     have hee:entE (kk,vv)=(entryP kk vv).getD ent0:=rfl
     generalize entE (kk,vv)=eo at *
     replace hdj:=Lib.hid hdj;replace hkv:=Lib.hid hkv;have hRj':=Lib.hid hRj;clear hRj;go_wp2_with fail
     refine hlen.out.mono ?_;rintro e w4 ⟨rfl,hb4⟩;have hO4:=hOj.below hb4;have hb04:=hbq.trans (hb4.mono hzq);clear hb4 hlen;go_wp2_with fail
     refine (hat.out _ hb04).mono ?_;rintro e w5 ⟨rfl,hb5⟩;have hO5:=hO4.below hb5;have hb05:=hb04.trans (hb5.mono hb04.size);clear hb5 hb04 hO4 hat;unfold AtV;go_wp2_with fail
     refine (hent.out _).mono ?_;rintro e w6 ⟨rfl,hb6⟩;have hO6:=hO5.below hb6;have hb06:=hb05.trans (hb6.mono hb05.size);have hz06:=hb06.size;clear hb6 hb05 hO5 hent;unfold entV;rw[←hee]
     generalize (entryP kk vv).isSome=eok at *
     unfold entC;clear hee;have hE6:=Blk.new w6 46 (entC eo);have ho1:=World.ownsRow.alloc (World.ownsRow.alloc (show w6.ownsRow w.heap.size 46 4 (.slice Aq dn.length cq) dn.length (entsC dn) from hO6) (.cells #[.string (bs eo.key),.string (bs eo.value),.int .u64 (eo.seq:Nat),.bool eo.gone] 46)) (.cells #[.string (bs eo.key),.string (bs eo.value),.int .u64 (eo.seq:Nat),.bool eo.gone] 46);have hrd:=reads4 (w6.alloc (.cells #[.string (bs eo.key),.string (bs eo.value),.int .u64 (eo.seq:Nat),.bool eo.gone] 46)) 46 (.string (bs eo.key)) (.string (bs eo.value)) (.int .u64 (eo.seq:Nat)) (.bool eo.gone);rw[World.size_alloc] at hrd
     have hbase:w.heap.size≤((w6.alloc (.cells #[.string (bs eo.key),.string (bs eo.value),.int .u64 (eo.seq:Nat),.bool eo.gone] 46)).alloc (.cells #[.string (bs eo.key),.string (bs eo.value),.int .u64 (eo.seq:Nat),.bool eo.gone] 46)).heap.size:=by rw[World.size_alloc,World.size_alloc];omega
     replace ho1:=Lib.hid ho1;replace hrd:=Lib.hid hrd;clear hE6
     by_cases hte:to_.toList=[]
     ·have hto:to_.data.toList=[]:=by rw[←ByteArray.toList_eq];exact hte
      have hem:to_.toList.isEmpty=true:=by rw[hte];rfl
      have hkp:keepP to_.data.toList eo=true:=by unfold keepP;simp[hto]
      replace hRj':=hRj'.out;rw[hkp,if_pos rfl] at hRj';replace hRj':=Lib.hid hRj';replace hkp:=Lib.hid hkp;replace hto:=Lib.hid hto
      go_wp2_with (at_builtin;refine wpList_append_any _ rfl (.tmp 74) (.tmp 76) _ rfl w.heap.size 46 i0 _ 4 48 Tryz.underlying44 hi0 hz0 hz1 hz2 rfl (by omega) _ dn.length (entsC dn) rfl ho1.out (w6.heap.size+1+1) (some ⟨w6.heap.size+1,0,none⟩) 1 1 _ rfl hrd.out (fun u hu=>by simp at hu;rcases hu with rfl | rfl | rfl | rfl<;>rfl) (by unfold maxLen;omega) (by omega) hbase ?_)
      intro v' w7 ho7 hg7 hat7;go_wp2_with fail
      refine⟨⟨j+1,dn++[eo],by omega,by go_num,by rw[hRj'.out];simp,OwnE.snoc eo ho7,?_⟩,by first | omega | (simp only[intOf];omega)⟩
      exact ((hb06.alloc hz06 _).alloc (by rw[World.size_alloc];omega) _).grown hg7 hbase (fun k hk=>(own_lt hO6 k hk).1)
     ·have hto:to_.data.toList≠[]:=by rw[←ByteArray.toList_eq];exact hte
      have hem:to_.toList.isEmpty=false:=by cases ht:to_.toList with
       | nil=>exact absurd ht hte
       | cons a l=>rfl
      by_cases hless:Op.bytesLess (bs eo.key).toList to_.toList=true
      ·have hkp:keepP to_.data.toList eo=true:=by
        unfold keepP lessL;rw[bs_toList,ByteArray.toList_eq] at hless;rw[hless,Bool.or_true]
       replace hRj':=hRj'.out;rw[hkp,if_pos rfl] at hRj';replace hRj':=Lib.hid hRj';replace hkp:=Lib.hid hkp;replace hto:=Lib.hid hto
       go_wp2_with (at_builtin;refine wpList_append_any _ rfl (.tmp 74) (.tmp 76) _ rfl w.heap.size 46 i0 _ 4 48 Tryz.underlying44 hi0 hz0 hz1 hz2 rfl (by omega) _ dn.length (entsC dn) rfl ho1.out (w6.heap.size+1+1) (some ⟨w6.heap.size+1,0,none⟩) 1 1 _ rfl hrd.out (fun u hu=>by simp at hu;rcases hu with rfl | rfl | rfl | rfl<;>rfl) (by unfold maxLen;omega) (by omega) hbase ?_)
       intro v' w7 ho7 hg7 hat7;go_wp2_with fail
       refine⟨⟨j+1,dn++[eo],by omega,by go_num,by rw[hRj'.out];simp,OwnE.snoc eo ho7,?_⟩,by first | omega | (simp only[intOf];omega)⟩
       exact ((hb06.alloc hz06 _).alloc (by rw[World.size_alloc];omega) _).grown hg7 hbase (fun k hk=>(own_lt hO6 k hk).1)
      ·have hkp:keepP to_.data.toList eo=false:=by
        unfold keepP lessL;rw[bs_toList,ByteArray.toList_eq] at hless;rw[Bool.not_eq_true] at hless;rw[hless,Bool.or_false]
        simpa using hto
       have hless':Op.bytesLess (bs eo.key).toList to_.toList=false:=by simpa using hless
       replace hRj':=hRj'.out;rw[hkp,if_neg (by decide),List.append_nil] at hRj';replace hRj':=Lib.hid hRj';replace hkp:=Lib.hid hkp;replace hto:=Lib.hid hto;clear hless ho1 hrd;go_wp2_with fail
       go_ret
       refine⟨_,rfl,by rw[hRj'.out];exact OwnE.below hO6 ((Below.refl _ _).alloc (Nat.le_refl _) _),hb06.alloc hz06 _⟩
    ·obtain rfl:j=b.length:=by omega
     rw[List.drop_length] at hRj;replace hRj:=Lib.hid hRj;go_wp2_with fail
     refine hlen.out.mono ?_;rintro e w4 ⟨rfl,hb4⟩;have hO4:=hOj.below hb4;have hb04:=hbq.trans (hb4.mono hzq);clear hb4 hlen;go_wp2_with fail
     exact⟨⟨i+1,dn,by omega,by go_num,hRj.out,hO4,hb04⟩,by first | omega | (simp only[intOf];omega)⟩
  ·obtain rfl:i=ix.length:=by omega
   have hilt':¬((ix.length:Nat):Int)<(gs.length:Nat):=by omega
   have hfin:rangeP ix bls from_.data.toList to_.data.toList=done:=by
    rw[hR,List.drop_of_length_le (by omega)]
    show done++[]=done
    rw[List.append_nil]
   replace hfin:=Lib.hid hfin;replace hR:=Lib.hid hR;replace hP:=Lib.hid hP;go_wp2_with fail
   go_ret
   exact⟨_,rfl,by rw[hfin.out];exact hO,hbr⟩
set_option maxRecDepth 100000 in
set_option maxHeartbeats 1000000 in
theorem All_any {w:World}{gt:Nat}{f:L}{ix:List (L × L)}{bls:List (List (L × L))}(h:TTAt w gt f ix bls)(hl:bls.length=ix.length)(hG:Gl w) :
  Calls Tryz.prog 58 #[.pointer (some ⟨gt,0,none⟩)] w fun e w'=>∃v,e=.returned v∧OwnE w' w.heap.size v (rangeP ix bls [] [])∧Below w.heap.size w w':=by
 have hr:=Lib.hid (Range_any h hl hG ⟨#[]⟩ ⟨#[]⟩ (by decide))
 go_enter Tryz.func58,Tryz.ntmps58
 go_wp2_with fail
 refine hr.out.mono ?_;rintro e w1 ⟨v,rfl,hO,hb1⟩;obtain⟨A,c,rfl⟩:=hO.form;go_wp2_with fail
 go_ret
 exact⟨_,rfl,hO,hb1⟩
end Go.Proofs.YtlpojfgeocpkeaaGreatDoor
