/- Contracts of the law: Right. -/
import Derived.Test.YtlpojfgeocpkeaaGreatDoorX26
namespace Go.Proofs.YtlpojfgeocpkeaaGreatDoor
open Go.RowKit Go.Sort
set_option linter.unusedVariables false
set_option linter.unusedSimpArgs false
structure OwnLL (w:World)(B:Nat)(v:Value)(ls:List EL):Prop where
 row:w.ownsRow B 44 1 v ls.length (ls.flatMap elV)
 each:∀x∈ls,OwnF w B (.slice x.A x.l.length x.c) x.l
theorem OwnLL.below {w w':World}{B:Nat}{v:Value}{ls:List EL}(h:OwnLL w B v ls)(hb:Below w.heap.size w w'):OwnLL w' B v ls :=
 ⟨own_block h.row (fun k hk=>hb.block k (own_lt h.row k hk).2),fun x hx=>(h.each x hx).below hb⟩
theorem OwnF.less {w:World}{B B':Nat}{v:Value}{l:List Ent}(h:OwnF w B v l)(hB:B'≤B):OwnF w B' v l:=by
 rcases h with h | ⟨g,cap,rfl,h1,h2,h3⟩
 ·exact .inl h
 ·exact .inr ⟨g,cap,rfl,by omega,h2,h3⟩
theorem sl_info:(Tryz.prog.info? 44).map (fun i=>(i.zero,i.size,i.bytes))=some (some (.slice none 0 0),1,24):=by kernel_rfl
def rightE (l:List Ent):List Ent:=mergeE (l.filter fitsE)
theorem one_sl (w:World)(t:TypeId)(v:Value):Reads (w.alloc (.cells #[v] t)) (w.heap.size+1) 1 (some ⟨w.heap.size,0,none⟩) 1 [v] :=
 ⟨rfl,fun _=>⟨_,rfl,by simp,fun j u hu=>by
  rcases j with _ | j
  ·simp at hu;subst hu;simp[Addr.add]
  ·simp at hu⟩⟩
theorem one_ent (w:World)(t:TypeId)(e:Ent):Reads (w.alloc (.cells #[.string (bs e.key),.string (bs e.value),.int .u64 (e.seq:Nat),.bool e.gone] t)) (w.heap.size+1) 4 (some ⟨w.heap.size,0,none⟩) 1 (enC e) :=
 ⟨rfl,fun _=>⟨_,rfl,by simp,fun j u hu=>by
  rcases j with _ | _ | _ | _ | j
  ·simp[enC] at hu;subst hu;simp[go_sem,Addr.add]
  ·simp[enC] at hu;subst hu;simp[go_sem,Addr.add]
  ·simp[enC] at hu;subst hu;simp[go_sem,Addr.add]
  ·simp[enC] at hu;subst hu;simp[go_sem,Addr.add]
  ·simp[enC] at hu⟩⟩
theorem OwnF.grown {w w':World}{B B' n:Nat}{v u:Value}{l:List Ent}{xs:List Value}(h:OwnF w B v l)(hg:w.grownBy w' u.ownBlock)(hu:w.ownsRow B' 44 1 u n xs):OwnF w' B v l:=by
 rcases h with h | ⟨g,cap,rfl,hB,hm,hr⟩
 ·exact .inl h
 ·obtain⟨cs,hb,h1,h2⟩:=hr.blk;exact .inr ⟨g,cap,rfl,hB,hm,hr.le,cs,hb.grown hg (fun e=>own_blk_ne hu hb (by decide) e.symm),h1,h2⟩
theorem OwnLL.form {w:World}{B:Nat}{v:Value}{ls:List EL}(h:OwnLL w B v ls):∃A c,v=.slice A ls.length c:=by
 rcases h.row.2 with⟨rfl,e⟩ | ⟨g,cap,cur,rfl,_⟩
 ·exact⟨none,0,by rw[e]⟩
 ·exact⟨_,cap,rfl⟩
set_option maxRecDepth 100000 in
set_option maxHeartbeats 8000000 in
theorem Right_any {w:World}{A:Option Addr}{ls:List EL}{cap:Nat}(h:LsAt w w.heap.size A ls)(hn:ls.length≤6)(hl:∀x∈ls,x.l.length≤60)(hs:∀x∈ls,∀e∈x.l,e.key.length≤20000∧e.value.length≤20000) :
  Calls Tryz.prog 9 #[.slice A ls.length cap] w fun e w'=>∃v os,e=.returned v∧OwnLL w' w.heap.size v os∧os.map (·.l)=ls.map (fun x=>rightE x.l)∧Below w.heap.size w w':=by
 obtain⟨i0,hi0,hz0,hz1,hz2⟩:=info_parts ent_info;obtain⟨j0,hj0,hy0,hy1,hy2⟩:=info_parts sl_info;obtain⟨N,hN⟩:∃N,ls.length=N:=⟨_,rfl⟩;rw[hN] at hn ⊢;replace h:=Lib.hid h;replace hl:=Lib.hid hl;replace hs:=Lib.hid hs
 go_enter Tryz.func9,Tryz.ntmps9
 go_wp2_with fail
 go_loopw [3,4,5,6] (fun ov iv _ _ wr=>∃(i:Nat) (os:List EL),i≤N∧iv=.int .i64 (i:Nat)∧OwnLL wr w.heap.size ov os∧os.map (·.l)=(ls.take i).map (fun x=>rightE x.l)∧Below w.heap.size w wr) (fun _ iv _ _ _=>N-(intOf iv).toNat)
 case atStart=>exact⟨0,[],Nat.zero_le _,rfl,⟨World.ownsRow_nil _ _ _ 1,fun x hx=>by cases hx⟩,rfl,Below.refl _ _⟩
 case round =>
  obtain⟨i,os,hi,rfl,ho,hom,hbr⟩:=hrel;have hzr:=hbr.size
  by_cases hlt:i<N
  ·have hlt':(i:Int)<N:=by omega
   have hil:i<ls.length:=by omega
   have hxi:=List.getElem?_eq_getElem hil;have hxm:=List.getElem_mem hil
   have hts:(ls.take (i+1)).map (fun x=>rightE x.l)=(ls.take i).map (fun x=>rightE x.l)++[rightE ls[i].l]:=by
    rw[List.take_succ_eq_append_getElem hil,List.map_append];rfl
   generalize ls[i]=x at *
   obtain⟨bb,oo,hA,hbb,hcell⟩:=(h.out.below hbr).at_ hxi;have hxl:=hl.out x hxm;have hxs:=hs.out x hxm;obtain⟨hxr,hxq⟩:=h.out.each x hxm
   have hbl:bb<wr.heap.size:=by omega
   replace hts:=Lib.hid hts;replace hom:=Lib.hid hom;replace ho:=Lib.hid ho;replace hbr:=Lib.hid hbr;replace hxs:=Lib.hid hxs;replace hxq:=Lib.hid hxq;replace hxr:=Lib.hid hxr;rw[hA];replace hA:=Lib.hid hA;replace hxi:=Lib.hid hxi;obtain⟨wo,rfl⟩:∃wo,wo=wr:=⟨_,rfl⟩;go_wp2_with fail
   go_loopw [5,6] (fun lv kv ws=>∃(k:Nat),k≤x.l.length∧kv=.int .i64 (k:Nat)∧ws.ownsRow wo.heap.size 46 4 lv ((x.l.take k).filter fitsE).length (entsF ((x.l.take k).filter fitsE))∧Below wo.heap.size wo ws) (fun _ kv _=>x.l.length-(intOf kv).toNat)
   case atStart=>exact⟨0,Nat.zero_le _,rfl,World.ownsRow_nil _ _ _ 4,Below.refl _ _⟩
   case round =>
    obtain⟨k,hk,rfl,hol,hbs⟩:=hrel;have hzs:=hbs.size;have hcell2:=(hbs.cell (p:=⟨bb,oo+i,none⟩) hbl).trans hcell
    have hbl2:bb<wr.heap.size:=by omega
    have hbws:=hbr.out.trans (hbs.mono hzr)
    by_cases hkl:k<x.l.length
    ·have hkl':(k:Int)<x.l.length:=by omega
     have hei:=List.getElem?_eq_getElem hkl;have hem:=List.getElem_mem hkl
     have htk:(x.l.take (k+1)).filter fitsE=(x.l.take k).filter fitsE++(if fitsE x.l[k] then [x.l[k]] else []):=by
      rw[List.take_succ_eq_append_getElem hkl,List.filter_append]
      congr 1
      cases hq:fitsE x.l[k]<;>simp[hq]
     generalize x.l[k]=e at *
     obtain⟨b1,o1,hxA,hb1,c0,c1,c2,c3⟩:=ent_at (hxr.out.below hbws) hei
     have hb1l:b1<wr.heap.size:=by have:=hbws.size;omega
     obtain⟨hk1,hk2⟩:=hxs.out e hem;have hft:=Lib.hid (fits_any e (by omega) (by omega) (hxq.out e hem) wr);obtain⟨LL,hLL⟩:∃LL,(x.l.take k).filter fitsE=LL:=⟨_,rfl⟩
     have hLn:LL.length≤60:=by
      rw[←hLL];have h1:=List.length_filter_le fitsE (x.l.take k);rw[List.length_take] at h1;omega
     rw[hLL] at hol htk;rw[hxA] at hcell2
     obtain⟨VA,Vc,hvf⟩:∃A c,u5=.slice A LL.length c:=by
      rcases hol.2 with⟨rfl,e⟩ | ⟨g,cap,cur,rfl,_⟩
      ·exact⟨none,0,by rw[e]⟩
      ·exact⟨_,cap,rfl⟩
     subst hvf;replace hol:=Lib.hid hol;replace hbs:=Lib.hid hbs;replace hbws:=Lib.hid hbws;replace hxA:=Lib.hid hxA;replace hei:=Lib.hid hei;replace hLL:=Lib.hid hLL;obtain⟨M,hM⟩:∃M,x.l.length=M:=⟨_,rfl⟩
     cases hfe:fitsE e with
     | false =>
      rw[hfe] at hft htk;replace htk:=Lib.hid htk;replace hfe:=Lib.hid hfe;go_wp2_with fail
      refine hft.out.mono ?_;rintro e' w2 ⟨rfl,hb2⟩;have hol2:=Lib.hid (own_block hol.out (fun j hj=>hb2.block j (own_lt hol.out j hj).2));have hbs2:=Lib.hid (hbs.out.trans (hb2.mono (by omega)));clear hb2;go_wp2_with fail
      exact⟨⟨k+1,by omega,by go_num,by rw[htk.out];simpa using hol2.out,hbs2.out⟩,by simp[intOf];omega⟩
     | true =>
      rw[hfe] at hft htk;replace htk:=Lib.hid htk;replace hfe:=Lib.hid hfe;go_wp2_with fail
      refine hft.out.mono ?_;rintro e' w2 ⟨rfl,hb2⟩;have hzw2:=hb2.size;have hol2:=own_block hol.out (fun j hj=>hb2.block j (own_lt hol.out j hj).2);have hol3:=own_block (w':=w2.alloc (.cells #[.string (bs e.key),.string (bs e.value),.int .u64 (e.seq:Nat),.bool e.gone] 46)) hol2 (fun j hj=>Below.heap_alloc w2 _ j (own_lt hol2 j hj).2);have hbs2:=hbs.out.trans (hb2.mono (by omega));have d0:=(hb2.cell (p:=⟨b1,o1+k*4,none⟩) hb1l).trans c0;have d1:=(hb2.cell (p:=⟨b1,o1+k*4+1,none⟩) hb1l).trans c1;have d2:=(hb2.cell (p:=⟨b1,o1+k*4+2,none⟩) hb1l).trans c2;have d3:=(hb2.cell (p:=⟨b1,o1+k*4+3,none⟩) hb1l).trans c3;have dc:=(hb2.cell (p:=⟨bb,oo+i,none⟩) hbl2).trans hcell2
      have hbl3:bb<w2.heap.size:=by omega
      have hb1l3:b1<w2.heap.size:=by omega
      clear c0 c1 c2 c3 hcell2 hb2 hol2;replace hbs2:=Lib.hid hbs2
      go_wp2_with (at_builtin;refine wpList_append_any _ rfl (.tmp 30) (.tmp 38) _ rfl wo.heap.size 46 i0 _ 4 48 Tryz.underlying44 hi0 hz0 hz1 hz2 rfl (by omega) _ LL.length (entsF LL) rfl hol3 (w2.heap.size+1) (some ⟨w2.heap.size,0,none⟩) 1 1 (enC e) rfl ?c0 ?c1 ?c2 ?c3 ?c4 ?_;rotate_left 5;intro v2 w3 ho3 hg3 hat3)
      case c0=>exact one_ent w2 _ e
      case c1=>intro u hu;simp[enC] at hu;rcases hu with rfl | rfl | rfl | rfl<;>rfl
      case c2=>simp only[maxLen];omega
      case c3=>omega
      case c4=>first | omega | (simp;have:=hbs2.out.size;omega)
      have hbs3:Below wo.heap.size wo w3:=(hbs2.out.alloc (by have:=hbs2.out.size;omega) _).grown hg3 (by simp;have:=hbs2.out.size;omega) (fun j hj=>(own_lt hol3 j hj).1)
      have he3:((x.l.take (k+1)).filter fitsE).length=LL.length+1∧entsF ((x.l.take (k+1)).filter fitsE)=entsF LL++enC e:=by
       rw[htk.out];simp[entsF]
      exact⟨⟨k+1,by omega,by go_num,by rw[he3.1,he3.2];exact ho3,hbs3⟩,by simp[intOf];omega⟩
    ·obtain rfl:k=x.l.length:=by omega
     have hkl':¬((x.l.length:Nat):Int)<x.l.length:=by omega
     rw[List.take_length] at hol;obtain⟨LL,hLL⟩:∃LL,x.l.filter fitsE=LL:=⟨_,rfl⟩
     have hLn:LL.length≤60:=by
      rw[←hLL];have h1:=List.length_filter_le fitsE x.l;omega
     rw[hLL] at hol
     obtain⟨VA,Vc,hvf⟩:∃A c,u5=.slice A LL.length c:=by
      rcases hol.2 with⟨rfl,e⟩ | ⟨g,cap,cur,rfl,_⟩
      ·exact⟨none,0,by rw[e]⟩
      ·exact⟨_,cap,rfl⟩
     subst hvf;obtain⟨wa,hwa⟩:∃wa,wa=wr.alloc (.cells #[.slice VA LL.length Vc] 44):=⟨_,rfl⟩
     have hba:Below wr.heap.size wr wa:=by rw[hwa];exact (Below.refl _ _).alloc (Nat.le_refl _) _
     have hza:=hba.size
     have hbA:Blk wa wr.heap.size 44 #[.slice VA LL.length Vc]:=by rw[hwa];exact Blk.new wr _ _
     have hola:=own_block (w':=wa) hol (fun j hj=>hba.block j (own_lt hol j hj).2);have hmg:=Lib.hid (Merge_one hbA (Reads.of_own hola) (by omega));have hbwa:=hbws.trans (hba.mono (by have:=hbws.size;omega));have ho':=ho.out.below (hbs.trans (hba.mono hzs));replace hbwa:=Lib.hid hbwa;replace ho':=Lib.hid ho';replace hola:=Lib.hid hola;replace hbA:=Lib.hid hbA;replace hol:=Lib.hid hol;replace hba:=Lib.hid hba;replace hLL:=Lib.hid hLL;go_wp2_with fail
     rw[←hwa];replace hwa:=Lib.hid hwa;refine hmg.out.mono ?_;rintro e' w4 ⟨v4,rfl,ho4,hb4⟩;have hz4:=hb4.size;have hbw4:=hbwa.out.trans (hb4.mono (by have:=hbwa.out.size;omega));have ho5:=ho'.out.below hb4;obtain⟨OA,Oc,hof⟩:=ho5.form;subst hof;obtain⟨A4,c4,hvf,_⟩:=ho4.reads;subst hvf
     have hos:os.length≤6:=by
      have:=congrArg List.length hom.out;rw[List.length_map,List.length_map,List.length_take] at this;omega
     have hoa:=own_block (w':=w4.alloc (.cells #[.slice A4 (mergeE LL).length c4] 44)) ho5.row (fun j hj=>Below.heap_alloc w4 _ j (own_lt ho5.row j hj).2);have hb5:Below w4.heap.size w4 (w4.alloc (.cells #[.slice A4 (mergeE LL).length c4] 44)):=(Below.refl _ _).alloc (Nat.le_refl _) _;have ho4a:=ho4.below hb5;have ho5a:=ho5.below hb5;replace ho4a:=Lib.hid ho4a;replace ho5a:=Lib.hid ho5a;replace ho4:=Lib.hid ho4;replace ho5:=Lib.hid ho5;replace hbw4:=Lib.hid hbw4;replace hb5:=Lib.hid hb5;clear hmg
     go_wp2_with (at_builtin;refine wpList_append_any _ rfl (.tmp 40) (.tmp 44) _ rfl w.heap.size 44 j0 _ 1 24 Tryz.underlying22 hj0 hy0 hy1 hy2 rfl (by omega) _ os.length (os.flatMap elV) rfl hoa (w4.heap.size+1) (some ⟨w4.heap.size,0,none⟩) 1 1 [.slice A4 (mergeE LL).length c4] rfl ?c0 ?c1 ?c2 ?c3 ?c4 ?_;rotate_left 5;intro v6 w6 ho6 hg6 hat6)
     case c0=>exact one_sl w4 _ _
     case c1=>intro u hu;simp at hu;subst hu;rfl
     case c2=>simp only[maxLen];omega
     case c3=>omega
     case c4=>first | omega | (simp;have:=hbw4.out.size;omega)
     have hb6:Below w.heap.size w w6:=((hbw4.out.alloc (by have:=hbw4.out.size;omega) _).grown hg6 (by simp;have:=hbw4.out.size;omega) (fun j hj=>(own_lt hoa j hj).1))
     have hnew:OwnLL w6 w.heap.size v6 (os++[⟨mergeE LL,A4,c4⟩]):=by
      refine⟨?_,fun y hy=>?_⟩
      ·rw[List.length_append,List.flatMap_append];exact ho6
      ·rcases List.mem_append.1 hy with hy | hy
       ·exact (ho5a.out.each y hy).grown hg6 hoa
       ·rw[List.mem_singleton.1 hy];exact (ho4a.out.less (by have:=hbwa.out.size;omega)).grown hg6 hoa
     have hmn:(os++[(⟨mergeE LL,A4,c4⟩:EL)]).map (·.l)=(ls.take (i+1)).map (fun x=>rightE x.l):=by
      rw[hts.out,List.map_append,hom.out];unfold rightE;rw[hLL.out];rfl
     replace hnew:=Lib.hid hnew;replace hmn:=Lib.hid hmn;replace hb6:=Lib.hid hb6;clear ho6 hg6 hat6 hoa;go_wp2_with fail
     exact⟨⟨i+1,os++[⟨mergeE LL,A4,c4⟩],by omega,by go_num,hnew.out,hmn.out,hb6.out⟩,by simp[intOf];omega⟩
  ·obtain rfl:i=N:=by omega
   have hlt':¬(i:Int)<i:=by omega
   rw[List.take_of_length_le (by omega)] at hom;replace ho:=Lib.hid ho;replace hom:=Lib.hid hom;replace hbr:=Lib.hid hbr;go_wp2_with fail
   go_ret
   exact⟨_,rfl,os,ho.out,hom.out,hbr.out⟩
end Go.Proofs.YtlpojfgeocpkeaaGreatDoor
