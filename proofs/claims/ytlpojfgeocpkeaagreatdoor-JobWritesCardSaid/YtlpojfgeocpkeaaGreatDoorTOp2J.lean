/- table.Open: the walk. -/
import Derived.Test.YtlpojfgeocpkeaaGreatDoorX31
namespace Go.Proofs.YtlpojfgeocpkeaaGreatDoor
open Go.RowKit
set_option linter.unusedVariables false
set_option linter.unusedSimpArgs false
def OpnIs (w:World)(o:Option (L × List (L × L) × List (List (L × L))))(e:Ending)(w':World):Prop:=match o with
 | none=>e=.returned (.tuple #[.pointer none,.int .i64 8])
 | some t=>∃gt,e=.returned (.tuple #[.pointer (some ⟨gt,0,none⟩),.int .i64 0])∧TTF (fun k=>w.heap.size≤k) w' gt t.1 t.2.1 t.2.2
theorem OpnIs.none_ {w:World}{o:Option (L × List (L × L) × List (List (L × L)))}{w':World}(h:o=none):OpnIs w o (.returned (.tuple #[.pointer none,.int .i64 8])) w':=by subst h;rfl
theorem OpnIs.some_ {w:World}{o:Option (L × List (L × L) × List (List (L × L)))}{w':World}{f:L}{ix:List (L × L)}{bls:List (List (L × L))}{gt:Nat}(h:o=some (f,ix,bls))(hk:TTF (fun k=>w.heap.size≤k) w' gt f ix bls):OpnIs w o (.returned (.tuple #[.pointer (some ⟨gt,0,none⟩),.int .i64 0])) w':=by subst h;exact⟨gt,rfl,hk⟩
theorem TTF.below {F:Nat→Prop}{w w':World}{gt:Nat}{f:L}{ix:List (L × L)}{bls:List (List (L × L))}(h:TTF F w gt f ix bls)(hb:Below w.heap.size w w'):TTF F w' gt f ix bls:=h.kept (KeptBut.of_below (S:=fun _=>False) hb) (fun _ _ h=>h)
theorem againT_cons {k v:L}{r:List (L × L)}{a:TB × L}:againT ((k,v)::r) a=match entryP k v with
  | none=>none
  | some e=>againT r ((a.1.add e).1,a.2++(a.1.add e).2):=rfl
theorem entry_seq {k v:L}{e:Ent}(h:entryP k v=some e):e.seq<18446744073709551616:=by
 unfold entryP at h
 split at h
 ·cases h
 ·split at h
  ·injection h with h;subst h;show 18446744073709551615-_<_;omega
  ·cases h
def restT (T:Option (TB × L))(l:List (L × L))(tb:TB)(out:L):Prop:=T=againT l (tb,out)
set_option maxRecDepth 100000 in
set_option maxHeartbeats 4000000 in
theorem TOpen_any (s:ByteArray)(w:World)(hs:s.size≤98304)(hG:Gl w) :
  Calls Tryz.prog 56 #[.string s] w fun e w'=>OpnIs w (openT s.data.toList) e w'∧Below w.heap.size w w':=by
 have hrd:=read_any s w (by omega);have hO:openT s.data.toList=openT s.data.toList:=rfl
 conv at hO=>rhs;unfold openT
 have hGl:=hG.lt
 cases hrt:readT s.data.toList with
 | none =>
  rw[hrt] at hrd hO;have hR:openT s.data.toList=none:=hO;replace hrd:=Lib.hid hrd;clear hO;replace hrt:=Lib.hid hrt;replace hR:=Lib.hid hR
  go_enter Tryz.func56,Tryz.ntmps56
  go_wp2_with fail
  refine hrd.out.mono ?_;rintro e w1 ⟨rfl,hb1⟩;go_wp2_with fail
  go_ret2
  exact⟨OpnIs.none_ hR.out,hb1⟩
 | some t =>
  obtain⟨f,ix,bls⟩:=t;rw[hrt] at hrd hO;obtain⟨_,hixl,hbix,hbl⟩:=readT_small hrt;rw[dlen] at hixl
  have hR:openT s.data.toList=match againT bls.flatten (TB.new 0 0,[]) with
   | none=>none
   | some (tb,out)=>if out++tb.outL=s.data.toList then some (f,ix,bls) else none:=hO
  replace hrd:=Lib.hid hrd;clear hO;replace hrt:=Lib.hid hrt;replace hR:=Lib.hid hR
  go_enter Tryz.func56,Tryz.ntmps56
  go_wp2_with fail
  refine hrd.out.mono ?_;rintro e w1 ⟨⟨gt,rfl,hT1⟩,hb1⟩;have hz1:=hb1.size;have hG1:=hG.below hb1 hGl;have hnew:=Lib.hid (New_any 0 0 w1);go_wp2_with fail
  refine hnew.out.mono ?_;rintro e w2 ⟨⟨gb,rfl,hB2⟩,hb2⟩;have hS0:=OSt.new hB2 hb2;obtain⟨gi,A,cap,gs,hB,hI,hr,hgl,hbk,hgt,_⟩:=id hT1;have c2:w1.cell? ⟨gt,2,none⟩=some (.slice A gs.length cap):=hB.cell 2;have hlt1:=hB.lt;have d2:=(hb2.cell (p:=⟨gt,2,none⟩) hlt1).trans c2
  have hlt2:gt<w2.heap.size:=by have:=hb2.size;omega
  clear hB2 hnew hrd
  have hbl':∀b∈bls,b.length≤32768:=fun b hb=>by have:=hbl b hb;rw[dlen] at this;omega
  clear hbl;replace hR:=hR.out;generalize hTe:againT bls.flatten (TB.new 0 0,[])=T at hR
  have hR2:=Lib.hid hR;have h0:restT T bls.flatten (TB.new 0 0) []:=hTe.symm;replace hTe:=Lib.hid hTe;clear hR
  have hgsl:gs.length≤32768:=by omega
  generalize hbb:w2.heap.size=b at hS0
  replace hbb:=Lib.hid hbb;have hB1:=Lib.hid hB;have hI1:=Lib.hid hI;clear hB hI c2 hb2;go_wp2_with fail
  clear d2
  go_loopw [30] (fun iv wr=>∃i tb out,i≤gs.length∧iv=.int .i64 (i:Nat)∧restT T (bls.drop i).flatten tb out∧OSt w1 wr gb w2.heap.size tb out (i*32768)) (fun iv _=>gs.length-(intOf iv).toNat)
  case atStart =>
   rw[←hbb.out] at hS0;exact⟨0,_,_,Nat.zero_le _,rfl,h0,hS0⟩
  case round =>
   obtain⟨i,tb,out,hi,rfl,hrest,hSt⟩:=hrel;have hbr:=hSt.bel
   by_cases hil:i<gs.length
   ·have hil':((i:Nat):Int)<(gs.length:Nat):=by omega
    obtain⟨g,hg⟩:∃g,gs[i]? = some g:=⟨_,List.getElem?_eq_getElem hil⟩;obtain⟨b,hb⟩:∃b,bls[i]? = some b:=⟨_,List.getElem?_eq_getElem (by omega)⟩;have hbg:=(hbk i g b hg hb).at_;obtain⟨ad,u,rfl,hadB,hu,hcell⟩:=hr.at_ hil;rw[List.getElem?_map,hg] at hu;injection hu with hu;subst hu;obtain⟨ad0,u0,e0,_,_,hc0⟩:=hr.at_ (k:=0) (by omega);injection e0 with e0;subst e0;obtain⟨bb,oo,rfl⟩:=plain_cell hc0;clear hc0;rw[add_off] at hcell;have hadB':bb<w1.heap.size:=hadB;have d3:=(hbr.cell (p:=⟨bb,oo+i,none⟩) hadB').trans hcell
    have hdr:bls.drop i=b::bls.drop (i+1):=by
     rw[List.drop_eq_getElem_cons (by omega)];rw[List.getElem?_eq_getElem (by omega)] at hb;injection hb with hb;rw[hb]
    rw[hdr,List.flatten_cons] at hrest;have hbll:=hbl' b (List.mem_of_getElem? hb);have hlen:=Lib.hid (Len_any (hbg.below hbr));replace hb:=Lib.hid hb;replace hg:=Lib.hid hg;replace hdr:=Lib.hid hdr;replace hrest:=Lib.hid hrest;go_wp2_with fail
    refine hlen.out.mono ?_;rintro e w3 ⟨rfl,hb3⟩;have hSt3:=hSt.below hb3;clear hb3 hlen d3;go_wp2_with fail
    go_loopw [36] (fun jv wq=>∃j tb out,j≤b.length∧jv=.int .i64 (j:Nat)∧restT T (b.drop j++(bls.drop (i+1)).flatten) tb out∧OSt w1 wq gb w2.heap.size tb out (i*32768+j)) (fun jv _=>b.length-(intOf jv).toNat)
    case atStart=>exact⟨0,tb,out,Nat.zero_le _,rfl,hrest.out,hSt3⟩
    case round =>
     obtain⟨j,tb,out,hj,rfl,hrest,hSt⟩:=hrel;have hbq:=hSt.bel
     by_cases hjl:j<b.length
     ·have hjl':((j:Nat):Int)<(b.length:Nat):=by omega
      obtain⟨kk,vv,hkv⟩:∃k v,b[j]? = some (k,v):=⟨b[j].1,b[j].2,List.getElem?_eq_getElem hjl⟩
      have hdj:b.drop j=(kk,vv)::b.drop (j+1):=by
       rw[List.drop_eq_getElem_cons (by omega)];rw[List.getElem?_eq_getElem (by omega)] at hkv;injection hkv with hkv;rw[hkv]
      unfold restT at hrest;rw[hdj,List.cons_append,againT_cons] at hrest;have hat:=Lib.hid (At_some (hbg.below hbq) j kk vv hkv);obtain⟨hkl,hvl⟩:=bk_small hbg hkv;have hent:=Lib.hid fun W=>entry_any (bs kk) (bs vv) W (by rw[bs_size];omega) (by rw[bs_size];omega);rw[bs_data,bs_data] at hent;replace hdj:=Lib.hid hdj;replace hkv:=Lib.hid hkv
      cases hpe:entryP kk vv with
      | none =>
       rw[hpe] at hent hrest
       have hfin:openT s.data.toList=none:=by rw[hR2.out,show T=none from hrest]
       replace hfin:=Lib.hid hfin;replace hpe:=Lib.hid hpe;replace hrest:=Lib.hid hrest;go_wp2_with fail
       refine hat.out.mono ?_;rintro e w4 ⟨rfl,hb4⟩;unfold AtV;go_wp2_with fail
       refine (hent.out _).mono ?_;rintro e w5 ⟨rfl,hb5⟩;have hbq5:=((hb1.trans (hbq.mono hz1)).trans (hb4.mono (Nat.le_trans hz1 hbq.size))).trans (hb5.mono (by have:=hbq.size;have:=hb4.size;omega));have hz5:=hbq5.size;unfold entV;simp only[Option.getD,Option.isSome];unfold entC ent0;go_wp2_with fail
       go_ret2
       exact⟨OpnIs.none_ hfin.out,hbq5.alloc hz5 _⟩
      | some eo =>
       rw[hpe] at hent hrest;have hsq:=entry_seq hpe;replace hpe:=Lib.hid hpe;replace hrest:=Lib.hid hrest;go_wp2_with fail
       refine hat.out.mono ?_;rintro e w4 ⟨rfl,hb4⟩;have hSt4:=hSt.below hb4;unfold AtV;clear hb4 hat hSt;go_wp2_with fail
       refine (hent.out _).mono ?_;rintro e w5 ⟨rfl,hb5⟩;have hSt5:=(hSt4.below hb5).below ((Below.refl _ _).alloc (Nat.le_refl _) (.cells (entC eo) 46));have hadd:=Lib.hid (hSt5.add hG1 (by omega) eo hsq);clear hb5 hent hSt4 hbq;unfold entV;simp only[Option.getD,Option.isSome];unfold entC at hadd hSt5 ⊢;go_wp2_with fail
       refine hadd.out.mono ?_;rintro e w6 ⟨rfl,hw6,hb6⟩;replace hw6:=Lib.hid hw6;go_wp2_with fail
       refine (hw6.out _ (Below.refl _ _)).mono ?_;rintro e w7 ⟨rfl,hSt7⟩;go_wp2_with fail
       exact⟨⟨j+1,_,_,by omega,by go_num,hrest.out,hSt7⟩,by first | omega | (simp only[intOf];omega)⟩
     ·obtain rfl:j=b.length:=by omega
      have hjl':¬((b.length:Nat):Int)<(b.length:Nat):=by omega
      rw[List.drop_length,List.nil_append] at hrest;replace hrest:=Lib.hid hrest;go_wp2_with fail
      exact⟨⟨i+1,tb,out,by omega,by go_num,hrest.out,hSt.more (by rw[Nat.add_mul];omega)⟩,by first | omega | (simp only[intOf];omega)⟩
   ·obtain rfl:i=gs.length:=by omega
    have hil':¬((gs.length:Nat):Int)<(gs.length:Nat):=by omega
    unfold restT at hrest;rw[hgl,List.drop_length] at hrest;have hrest2:T=some (tb,out):=hrest
    have hfin:openT s.data.toList=if out++tb.outL=s.data.toList then some (f,ix,bls) else none:=by rw[hR2.out,hrest2]
    have hf:=Lib.hid (hSt.fin hG1 (by omega));replace hrest2:=Lib.hid hrest2;clear hrest;go_wp2_with fail
    refine hf.out.mono ?_;rintro e w6 ⟨⟨hln1,hln2⟩,⟨x,y,rfl⟩,hw6,hb6⟩
    have hlnn:¬9223372036854775807<(bs out).size+(bs tb.outL).size:=by rw[bs_size,bs_size];omega
    have hb6a:=(Below.refl w6.heap.size w6).alloc (Nat.le_refl _) (.cells (tiC x) 51);replace hw6:=Lib.hid hw6;unfold tiC strV at hb6a ⊢;go_wp2_with fail
    refine (hw6.out _ hb6a).mono ?_;rintro e w7 ⟨rfl,hb7⟩;have hw7:=hb1.trans (hb7.mono hz1);have hT7:=hT1.below hb7;replace hT7:=Lib.hid hT7
    by_cases hq:out++tb.outL=s.data.toList
    ·rw[if_pos hq] at hfin
     have hc1:bs out++bs tb.outL=s:=by rw[bs_append,hq,bs_of]
     replace hfin:=Lib.hid hfin;replace hq:=Lib.hid hq;go_wp2_with fail
     go_ret2
     exact⟨OpnIs.some_ hfin.out hT7.out,hw7⟩
    ·rw[if_neg hq] at hfin
     have hc1:((bs out++bs tb.outL).toList==s.toList)=false:=by
      rw[bs_append,bs_toList,ByteArray.toList_eq]
      simpa using hq
     replace hfin:=Lib.hid hfin;replace hq:=Lib.hid hq;go_wp2_with fail
     go_ret2
     exact⟨OpnIs.none_ hfin.out,hw7⟩
end Go.Proofs.YtlpojfgeocpkeaaGreatDoor
