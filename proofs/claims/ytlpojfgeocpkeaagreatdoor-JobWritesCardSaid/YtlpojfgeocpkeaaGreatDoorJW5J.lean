/- JobWrites walked. -/
import Derived.Test.YtlpojfgeocpkeaaGreatDoorJW4J
namespace Go.Proofs.YtlpojfgeocpkeaaGreatDoor
open Go.RowKit Go.Sort
set_option linter.unusedVariables false
set_option linter.unusedSimpArgs false
theorem filt_map (os:List EL):(os.filter fullP).map (·.l)=(lsOf os).filter fun l=>decide (0<l.length):=by
 unfold lsOf
 induction os with
 | nil=>rfl
 | cons x l ih =>
  rw[List.map_cons,List.filter_cons,List.filter_cons];unfold fullP at ih ⊢
  by_cases h:0<x.l.length
  ·rw[if_pos (by simpa using h),if_pos (by simpa using h),List.map_cons,ih]
  ·rw[if_neg (by simpa using h),if_neg (by simpa using h),ih]
set_option maxRecDepth 100000 in
set_option maxHeartbeats 16000000 in
theorem JobWrites_any {w:World}{A:Option Addr}{ls:List EL}{cap:Nat}(level:Int)(num:Nat)(hnum:num<4294967296)(h:LsAt w w.heap.size A ls)(hL:ls.length≤9223372036854775807)(hs:∀x∈ls,x.l.length≤9223372036854775807∧∀e∈x.l,e.key.length≤9223372036854775807∧e.value.length≤9223372036854775807)(hG:Gl w)(h5:Tab w)(hz7:7≤w.heap.size) :
  Calls Tryz.prog 4 #[.slice A ls.length cap,.int .i64 level,.int .u32 (num:Nat)] w fun e w'=>e=.returned (.bool true)∧Below w.heap.size w w':=by
 have hgr:=Lib.hid (Great_any (cap:=cap) h hL hs);obtain⟨N0,hN0⟩:∃N,ls.length=N:=⟨_,rfl⟩;rw[hN0] at hgr ⊢;replace h:=Lib.hid h;replace hs:=Lib.hid hs;replace hG:=Lib.hid hG;replace h5:=Lib.hid h5;replace hN0:=Lib.hid hN0
 go_enter Tryz.func4,Tryz.ntmps4
 go_wp2_with fail
 refine hgr.out.mono ?_;clear hgr;rintro e w1 ⟨rb,rfl,hrb,hb1⟩;have hz1:=hb1.size
 cases rb with
 | true =>
  have haw:=jawake_any (hG.out.below hb1 (by omega)) (h5.out.low hb1 (by omega)) (by omega);replace haw:=Lib.hid haw;replace hb1:=Lib.hid hb1;clear hrb;go_wp2_with fail
  refine haw.out.mono ?_;clear haw;rintro e w2 ⟨rfl,hb2⟩;have hfin:=Lib.hid (hb1.out.trans (hb2.mono hz1));replace hb2:=Lib.hid hb2;go_wp2_with fail
  go_ret
  exact⟨rfl,hfin.out⟩
 | false =>
  obtain⟨hl6,hokE,hsz⟩:=hrb rfl;have hls1:=(h.out.below hb1).more hz1;have hN06:N0≤6:=hl6;have h60:∀x∈ls,x.l.length≤60:=fun x hx=>(hokE x hx).1;have h20:∀x∈ls,∀e∈x.l,e.key.length≤20000∧e.value.length≤20000:=fun x hx=>(hokE x hx).2;have hri:=Right_any (cap:=cap) hls1 (by rw[hN0.out];exact hl6) h60 h20;rw[hN0.out] at hri;replace hri:=Lib.hid hri;replace hb1:=Lib.hid hb1;replace h60:=Lib.hid h60;replace h20:=Lib.hid h20;replace hl6:=Lib.hid hl6;clear hls1 hokE hrb hsz;go_wp2_with fail
  refine hri.out.mono ?_;clear hri;rintro e w2 ⟨vR,oR,rfl,hoR,homR,hb2⟩;have hz2:=hb2.size;obtain⟨hr1,hr2,hr3,hr4⟩:=right_ok homR h60.out;obtain⟨AR,cR,rfl⟩:=hoR.form;have hlR:=hoR.ls hr4;rw[hr3,hN0.out];have hbw2:=hb1.out.trans (hb2.mono hz1);have hls2:=(h.out.below hbw2).more hbw2.size;have hri2:=Right_any (cap:=cap) hls2 (by rw[hN0.out];exact hl6.out) h60.out h20.out;rw[hN0.out] at hri2;obtain⟨B0,hB0⟩:∃b,w2.heap.size=b:=⟨_,rfl⟩
  have hBw:w.heap.size≤B0:=by omega
  have hBz2:B0≤w2.heap.size:=Nat.le_of_eq hB0.symm;rw[hB0] at hlR;replace hri2:=Lib.hid hri2;replace hlR:=Lib.hid hlR;replace hr1:=Lib.hid hr1;replace hr2:=Lib.hid hr2;replace hr4:=Lib.hid hr4;replace hbw2:=Lib.hid hbw2;replace hoR:=Lib.hid hoR;replace homR:=Lib.hid homR;replace hb2:=Lib.hid hb2;replace hB0:=Lib.hid hB0;replace hr3:=Lib.hid hr3;replace hBz2:=Lib.hid hBz2;clear hls2;go_wp2_with fail
  refine hri2.out.mono ?_;clear hri2;rintro e w3 ⟨vO,oO,rfl,hoO,homO,hb3⟩;have hz3:=hb3.size;obtain⟨ho1,ho2,ho3,ho4⟩:=right_ok homO h60.out;obtain⟨AO,cO,rfl⟩:=hoO.form;have hlO:=hoO.ls ho4;have hoI:=TurnI.of hoO;have hoRow:=own_moreJ (B':=0) hoO.row (Nat.zero_le _);have hoRB:=own_lt hoO.row;rw[hB0.out] at hoI hoRB;rw[ho3,hN0.out] at hoRB ⊢
  have hlsE:lsOf oO=lsOf oR:=by unfold lsOf;rw[homO,←homR.out]
  have hnew:=New_dx 1048576 w3 (X:=fun k=>k<w3.heap.size) (fun k q=>q);obtain⟨B1,hB1⟩:∃b,w3.heap.size=b:=⟨_,rfl⟩;have hbB3:Below B0 w2 w3:=hb3.mono (by have:=hB0.out;omega);have hbw3:=hbw2.out.trans (hb3.mono hbw2.out.size)
  have hB01:B0≤B1:=by have:=hB0.out;omega
  rw[hB1] at hnew hlO hoI;replace hnew:=Lib.hid hnew;replace hlO:=Lib.hid hlO;replace ho1:=Lib.hid ho1;replace ho2:=Lib.hid ho2;replace ho4:=Lib.hid ho4;replace hoO:=Lib.hid hoO;replace homO:=Lib.hid homO;replace hb3:=Lib.hid hb3;replace hB1:=Lib.hid hB1;replace ho3:=Lib.hid ho3;replace hoI:=Lib.hid hoI;replace hoRow:=Lib.hid hoRow;replace hoRB:=Lib.hid hoRB;replace hlsE:=Lib.hid hlsE;replace hbB3:=Lib.hid hbB3;replace hbw3:=Lib.hid hbw3;go_wp2_with fail
  have en1:1+(num:Int)=((1+num:Nat):Int):=by push_cast;rfl
  rw[en1];clear en1;obtain⟨m,hm⟩:∃m,1+num=m:=⟨_,rfl⟩;rw[hm]
  have hm32:m≤4294967296:=by omega
  have hm1:1≤m:=by omega
  replace hm:=Lib.hid hm;generalize bits BinOp.and IntKind.i64 level 3=lv
  refine hnew.out.mono ?_;clear hnew;rintro e w4 ⟨d,rfl,hD4,hb4,hd4⟩;have hz4:=hb4.size
  have hz4b:B1≤w4.heap.size:=by have:=hB1.out;omega
  have hb4w:Below w3.heap.size w3 w4:=by
   rw[hB1.out];exact hb4
  have hls4:=(hlO.out.below hb4).more hz4b;have hbw4:=hbw3.out.trans (hb4w.mono hbw3.out.size);have hz34:=hb4w.size;have hB1e:=Nat.le_of_eq hB1.out.symm;replace hb4w:=Lib.hid hb4w;have hnj:=new_run2 (B0:=B0) lv m hD4 hls4 (by rw[ho3.out,hN0.out];exact hl6.out) ho1.out ho2.out (hG.out.below hbw4 (by omega)) (h5.out.low hbw4 (by omega)) (by omega) hB01 hz4b (cap:=cO);rw[ho3.out,hN0.out] at hnj;replace hnj:=Lib.hid hnj;replace hD4:=Lib.hid hD4;replace hb4:=Lib.hid hb4;replace hls4:=Lib.hid hls4;replace hbw4:=Lib.hid hbw4;go_wp2_with fail
  refine hnj.out.mono ?_;clear hnj;rintro e w5 ⟨K,K',vl,os,rfl,hKl,hKl',hKK,hKn,hJ,hk,hom,hb5⟩;have hz5:=hb5.size;have hbw5:=hbw4.out.trans (hb5.mono (by have:=hbw4.out.size;omega));have hLs:=hk.lsok;obtain⟨LS,hLS⟩:∃x,os.map (·.l)=x:=⟨_,rfl⟩;rw[hLS] at hLs;obtain⟨g,hg⟩:∃x,w4.heap.size=x:=⟨_,rfl⟩;rw[hg] at hJ ⊢
  have hLSE:LS=(lsOf oR).filter fun l=>decide (0<l.length):=by rw[←hLS,hom,filt_map,hlsE.out]
  have hbB5:Below B0 w2 w5:=(hbB3.out.trans (hb4w.out.mono (by omega))).trans (hb5.mono (by omega));have hoI5:OwnJ w5 w5 B0 B1 (.slice AO oO.length cO) oO:=⟨.refl _ _,(hoI.out.below hb4w.out).below hb5,own_belowJ (own_belowJ hoRow.out hb4w.out) hb5⟩;replace hJ:=Lib.hid hJ;replace hk:=Lib.hid hk;replace hom:=Lib.hid hom;replace hb5:=Lib.hid hb5;replace hbw5:=Lib.hid hbw5;replace hLs:=Lib.hid hLs;replace hLS:=Lib.hid hLS;replace hKl:=Lib.hid hKl;replace hKl':=Lib.hid hKl';replace hKK:=Lib.hid hKK;replace hKn:=Lib.hid hKn;replace hg:=Lib.hid hg;replace hLSE:=Lib.hid hLSE;replace hbB5:=Lib.hid hbB5;replace hoI5:=Lib.hid hoI5;replace hoRB:=Lib.hid hoRB;clear hoI hoRow hls4;go_wp2_with fail
  go_loopw [12,13] (fun iv kv wr=>∃i:Nat,i≤N0∧iv=.int .i64 (i:Nat)∧OwnJ w5 wr B0 B1 (.slice AO oO.length cO) oO) (fun iv _ _=>N0-(intOf iv).toNat)
  case atStart=>exact⟨0,Nat.zero_le _,rfl,hoI5.out⟩
  case round =>
   obtain⟨i,hi,rfl,hoi⟩:=hrel
   by_cases hlt:i<N0
   ·have hlt':(i:Int)<N0:=by omega
    have hio:i<oO.length:=by rw[ho3.out,hN0.out];exact hlt
    obtain⟨x,hx⟩:∃x,oO[i]? = some x:=⟨_,List.getElem?_eq_getElem hio⟩;have hxm:=List.mem_of_getElem? hx;have hx60:=ho2.out x hxm;obtain⟨M,hM⟩:∃M,x.l.length=M:=⟨_,rfl⟩;rw[hM] at hx60;replace hx:=Lib.hid hx;replace hxm:=Lib.hid hxm;replace hM:=Lib.hid hM;obtain⟨wo,rfl⟩:∃y,y=wr:=⟨_,rfl⟩;replace hoi:=Lib.hid hoi;go_wp2_with fail
    go_loopw [13] (fun kv wr=>∃k:Nat,k≤M∧kv=.int .i64 (k:Nat)∧OwnJ w5 wr B0 B1 (.slice AO oO.length cO) oO) (fun kv _=>M-(intOf kv).toNat)
    case atStart=>exact⟨0,Nat.zero_le _,rfl,hoi.out⟩
    case round =>
     obtain⟨k,hk2,rfl,hok⟩:=hrel;obtain⟨rb,hrb,hrl,hrc⟩:=rowF_at hok.row hx.out;rw[hM.out] at hrc;subst hrb
     by_cases hkM:k<M
     ·have hkM':(k:Int)<M:=by omega
      obtain⟨gx,cur,hA,hg1,hg2,hgB,hgs⟩:=hok.turn x hxm.out (by rw[hM.out];omega);rw[hM.out] at hgs;rw[hA] at hrc;obtain⟨v0,hv0⟩:∃v,cur[k*4]? = some v:=⟨_,Array.getElem?_eq_getElem (by omega)⟩;have c0:=(hgB.cell (k*4)).trans hv0;have f0:=hgB.frozen (k*4);have gl:=hgB.lt;have hok2:=hok.set (o:=k*4) hgB hg1 hg2 (.string ⟨#[116,117,114,110,101,100]⟩);replace hok2:=Lib.hid hok2;replace hA:=Lib.hid hA;replace hv0:=Lib.hid hv0;replace hgB:=Lib.hid hgB;replace hok:=Lib.hid hok;go_wp2_with fail
      exact⟨⟨k+1,by omega,by go_num,hok2.out⟩,by simp[intOf];omega⟩
     ·obtain rfl:k=M:=by omega
      have hkM':¬(k:Int)<k:=by omega
      replace hok:=Lib.hid hok;go_wp2_with fail
      exact⟨⟨i+1,by omega,by go_num,hok.out⟩,by simp[intOf];omega⟩
   ·obtain rfl:i=N0:=by omega
    have hlt':¬(i:Int)<i:=by omega
    obtain⟨w6,rfl⟩:∃y,y=wr:=⟨_,rfl⟩;have hz6:=hoi.kept.size;have hJ6:=hJ.out.beside hoi.kept (fun k q=>hKl.out k q.2);have hKlt5:∀k,K' k→k<w5.heap.size:=fun k q=>hJ.out.lt k (hKK.out k q);have hk56:Keeps K' w5 w6:=Keeps.of_kept hoi.kept (fun k q=>⟨hKlt5 k q,fun e=>hKn.out k e.1 e.2 q⟩);have hJ6b:=hJ6.wide (K':=K') (Below.refl _ _) (fun k q=>⟨.inl (hKK.out k q),by have:=hKlt5 k q;omega⟩);have hk6:=hk.out.keeps hk56;have hbB6:Below B0 w2 w6:=hbB5.out.trans (hoi.kept.below (fun k q=>q.1) (by have:=hbB5.out.size;have:=hBz2.out;omega));have hbw6:Below w.heap.size w w6:=hbw5.out.trans (hoi.kept.below (fun k q=>by omega) hbw5.out.size);have hzw6:=hbw6.size;have hlR6:=(hlR.out.below hbB6).more (show B0≤w6.heap.size by have:=hbB6.size;have:=hBz2.out;omega);have hso:=some_any (cap:=cR) hlR6 (by rw[hr3.out,hN0.out];have:=hl6.out;omega) (fun x hx=>by have:=hr2.out x hx;omega);rw[hr3.out,hN0.out] at hso;obtain⟨FL,hFL⟩:∃x,oR.filter fullP=x:=⟨_,rfl⟩;rw[hFL] at hso
    have hFm:FL.map (·.l)=LS:=by rw[←hFL,filt_map];exact hLSE.out.symm
    obtain⟨N,hN⟩:∃N,LS.length=N:=⟨_,rfl⟩
    have hNF:FL.length=N:=by rw[←hN,←hFm,List.length_map]
    have hN6:N≤6:=by rw[←hN];exact hLs.out.few
    have hsub:∀x∈FL,x∈oR:=fun x hx=>by rw[←hFL] at hx;exact (List.mem_filter.1 hx).1
    replace hso:=Lib.hid hso;replace hJ6b:=Lib.hid hJ6b;replace hk6:=Lib.hid hk6;replace hbB6:=Lib.hid hbB6;replace hbw6:=Lib.hid hbw6;replace hFL:=Lib.hid hFL;replace hNF:=Lib.hid hNF;replace hN:=Lib.hid hN;replace hFm:=Lib.hid hFm;replace hsub:=Lib.hid hsub;replace hKlt5:=Lib.hid hKlt5;replace hlR6:=Lib.hid hlR6;clear hJ6 hk56 hoi hlt;go_wp2_with fail
    refine hso.out.mono ?_;clear hso;rintro e w7 ⟨sv,rfl,hoS,hb7⟩
    obtain⟨SA,Sc,hsf⟩:∃A c,sv=.slice A FL.length c:=by
     rcases hoS.2 with⟨rfl,e⟩ | ⟨gg,cap,cur,rfl,_⟩
     ·exact⟨none,0,by rw[e]⟩
     ·exact⟨_,cap,rfl⟩
    subst hsf;have hz7':=hb7.size;have hlR7:=(hlR6.out.below hb7).more hz7';have hSt:=Steps_any (cap:=cR) hlR7 (by rw[hr3.out,hN0.out];exact hl6.out) hr2.out;rw[hr3.out,hN0.out] at hSt;have hsc:=fun left=>some_counts (lsOf oR) left;rw[←hLSE.out] at hsc
    have hstE:stepsG (lsOf oR)=stepsG LS:=by
     unfold stepsG;rw[←(hsc 0).2.2]
    rw[hstE] at hSt;obtain⟨ST,hST⟩:∃x,stepsG LS=x:=⟨_,rfl⟩;rw[hST] at hSt
    have hST60:ST≤60:=by
     have:=totE_le hLs.out;rw[←hST];unfold stepsG
     split<;>omega
    have hSTp:1≤ST:=by
     rw[←hST];unfold stepsG
     split<;>omega
    have hbw7:=hbw6.out.trans (hb7.mono (by omega));have hbB7:Below B0 w2 w7:=hbB6.out.trans (hb7.mono (by have:=hbB6.out.size;have:=hBz2.out;omega));obtain⟨K2,hK2⟩:∃X:Nat→Prop,(fun k=>K' k∨(w6.heap.size≤k∧k<w7.heap.size))=X:=⟨_,rfl⟩
    have hJ7:=hJ6b.out.wide (K':=K2) hb7 (fun k q=>by
     rw[←hK2] at q;rcases q with q | q
     ·exact⟨.inl q,by have:=hKlt5.out k q;omega⟩
     ·exact⟨.inr q.1,q.2⟩)
    have hk7:=(hk6.out.keeps (.of_below hb7 (fun k q=>by have:=hKlt5.out k q;omega))).mono (K':=K2) (fun k q=>by rw[←hK2];exact .inl q)
    have hK2l:∀k,k<B0→K2 k:=fun k q=>by rw[←hK2];exact .inl (hKl'.out k q)
    have hK2s:∀k,w6.heap.size≤k→k<w7.heap.size→K2 k:=fun k q1 q2=>by rw[←hK2];exact .inr ⟨q1,q2⟩
    have hK2t:∀k,K2 k→k<w7.heap.size:=hJ7.lt;have hoS0:=own_moreJ (B':=0) hoS (Nat.zero_le _);have hoSb:∀k,(Value.slice SA FL.length Sc).ownBlock=some k→K2 k:=fun k e=>hK2s k (own_lt hoS k e).1 (own_lt hoS k e).2;rw[hNF.out] at hoSb hoS0 ⊢;have hW0:=WrI.start (n:=m) (lv:=lv) hLs.out;replace hSt:=Lib.hid hSt;replace hsc:=Lib.hid hsc;replace hST:=Lib.hid hST;replace hbw7:=Lib.hid hbw7;replace hbB7:=Lib.hid hbB7;replace hJ7:=Lib.hid hJ7;replace hk7:=Lib.hid hk7;replace hK2:=Lib.hid hK2;replace hK2l:=Lib.hid hK2l;replace hK2s:=Lib.hid hK2s;replace hK2t:=Lib.hid hK2t;replace hoS:=Lib.hid hoS;replace hoS0:=Lib.hid hoS0;replace hoSb:=Lib.hid hoSb;replace hstE:=Lib.hid hstE;replace hW0:=Lib.hid hW0;replace hb7:=Lib.hid hb7;clear hlR7;go_wp2_with fail
    refine hSt.out.mono ?_;clear hSt;rintro e wq ⟨rfl,rfl⟩;go_wp2_with fail
    go_loopw [16,17,18,19,20,21,22,23] (fun sv dv ev tv fv jv iv pv wr=>∃(t:Nat) (r:SR),1≤t∧t≤ST+1∧sv=.int .i64 (t:Nat)∧JRun K2 wr g d r.s m lv vl os r.J r.done r.over r.dead True∧r.s.Good (40*t)∧Keeps K2 w7 wr∧WrI m lv LS (t-1) r) (fun sv _ _ _ _ _ _ _ _=>ST+1-(intOf sv).toNat)
    case atStart=>exact⟨1,⟨⟨0,0,[],[]⟩,Dsk.new 1048576,false,0,false,false,false⟩,Nat.le_refl _,by omega,rfl,hJ7.out,(Dsk.Good.new 1048576).more (by omega),.refl _ _,hW0.out⟩
    case round =>
     obtain⟨t,r,ht1,ht2,rfl,hJr,hgr,hkr,hWr⟩:=hrel;have hzr:=hkr.size
     by_cases hlt:t≤ST
     ·have hlt':(t:Int)≤ST:=by omega
      have hdn0:r.done=false:=by
       cases hd:r.done with
       | false=>rfl
       | true =>
        have:=hWr.done.1 hd
        rw[hST.out] at this;omega
      rw[hdn0,hWr.over,hWr.dead] at hJr;clear hdn0;have hst:=Step_on hJr (hk7.out.keeps hkr) hLS.out hWr.ok hLs.out hWr.disk.calm.off hgr (by omega) hm32;have hgn:=stepR_good (n:=m) (lv:=lv) hLs.out (by have:=hLs.out.few;omega) hWr.ok hgr;obtain⟨hWn,hrt⟩:=hWr.next hLs.out hm32;rw[show t-1+1=t from by omega] at hWn;obtain⟨r2,hr2e⟩:∃x,stepR m lv LS r.J r.s=x:=⟨_,rfl⟩;rw[hr2e] at hst hgn hWn hrt
      obtain⟨db,hdb⟩:∃x,r2.done=x:=⟨_,rfl⟩
      rw[hrt,hWn.e,hdb] at hst
      have hts:((t:Int)==(ST:Int))=db:=by
       rw[←hdb]
       by_cases q:t=ST
       ·rw[hWn.done.2 (by rw[hST.out];omega),q]
        simp
       ·have:r2.done=false:=by
         cases hd:r2.done with
         | false=>rfl
         | true =>
          have:=hWn.done.1 hd
          rw[hST.out] at this;omega
        rw[this];simp;omega
      replace hdb:=Lib.hid hdb;replace hst:=Lib.hid hst;replace hgn:=Lib.hid hgn;replace hWn:=Lib.hid hWn;replace hrt:=Lib.hid hrt;replace hr2e:=Lib.hid hr2e;replace hWr:=Lib.hid hWr;replace hJr:=Lib.hid hJr;replace hgr:=Lib.hid hgr;replace hkr:=Lib.hid hkr;go_wp2_with fail
      refine hst.out.mono ?_;clear hst;rintro e w8 ⟨rfl,hk8,hJ8⟩;have hkr8:=hkr.out.trans hk8 (fun _=>id);have hJ8:=hJ8.weak (ok':=True) (fun _=>⟨hWn.out.over,hWn.out.dead⟩);rw[hWn.out.over,hWn.out.dead] at hJ8;obtain⟨q1,q2,q3,q4,q5,q6,q7⟩:=hWn.out.counts hLs.out hm32;obtain⟨li,hli⟩:∃x,r2.J.li=x:=⟨_,rfl⟩;obtain⟨nf,hnf⟩:∃x,r2.J.fs.length=x:=⟨_,rfl⟩;have htabR:=fun j (hj:j<li)=>hWn.out.tab hLs.out hm32 (j:=j) (by rw[hli];exact hj);rw[hli] at q1 q5 q7;rw[hnf] at q2 q3 q4 q6;rw[hN.out] at q7;have hfT:=Tables_any hJ8 (by rw[q5,tabsT_len];omega);rw[q5,tabsT_len] at hfT;have hz8:=hk8.size;have hz8k:=hkr8.size;replace hfT:=Lib.hid hfT;replace hJ8:=Lib.hid hJ8;replace hkr8:=Lib.hid hkr8;replace hk8:=Lib.hid hk8;replace q1:=Lib.hid q1;replace q2:=Lib.hid q2;replace q3:=Lib.hid q3;replace q4:=Lib.hid q4;replace q5:=Lib.hid q5;replace hli:=Lib.hid hli;replace hnf:=Lib.hid hnf;replace htabR:=Lib.hid htabR;go_wp2_with fail
      refine hfT.out.mono ?_;clear hfT;rintro e w9 ⟨TA,Tc,rfl,hoT,hb9⟩;have hz9:=hb9.size;have hJ9:=(hJ8.out.below hb9).1;have hfF:=Files_any hJ9 (by rw[hnf.out];omega);rw[q4.out,namesT_len] at hfF;replace hfF:=Lib.hid hfF;replace hJ9:=Lib.hid hJ9;replace hoT:=Lib.hid hoT;replace hb9:=Lib.hid hb9;go_wp2_with fail
      refine hfF.out.mono ?_;clear hfF;rintro e w10 ⟨FA,Fc,rfl,hoF,hb10⟩;have hz10:=hb10.size;have hbB8:Below B0 w2 w8:=hbB7.out.trans (hkr8.out.below (fun k q=>hK2l.out k q))
      have hB08:B0≤w8.heap.size:=by have:=hbB8.size;have:=hBz2.out;omega
      have hb810:Below w8.heap.size w8 w10:=hb9.out.trans (hb10.mono hz9);have hlR10:=(hlR.out.below (hbB8.trans (hb810.mono hB08))).more (show B0≤w10.heap.size by omega);have hWt:=Written_any (cap:=cR) hlR10 (by rw[hr3.out,hN0.out];exact hl6.out) hr2.out t (by omega);have hBg:=Begun_any (cap:=cR) hlR10 (by rw[hr3.out,hN0.out];exact hl6.out) hr2.out t (by omega);rw[hr3.out,hN0.out,←(hsc.out (8*t)).1,q1.out] at hWt;rw[hr3.out,hN0.out,←(hsc.out (8*t)).2.1,q2.out] at hBg;have hJ10:=(hJ9.out.below hb10).1;have hli10:=List_dx hJ10.dx_ hgn.out (by omega);rw[q3.out] at hli10;have hbw8:Below w.heap.size w w8:=hbw7.out.trans (hkr8.out.below (fun k q=>hK2l.out k (by omega)));have hzw8:=hbw8.size;replace hWt:=Lib.hid hWt;replace hBg:=Lib.hid hBg;replace hli10:=Lib.hid hli10;replace hJ10:=Lib.hid hJ10;replace hoF:=Lib.hid hoF;replace hb10:=Lib.hid hb10;replace hb810:=Lib.hid hb810;replace hbB8:=Lib.hid hbB8;replace hbw8:=Lib.hid hbw8;clear hlR10;go_wp2_with fail
      refine hWt.out.mono ?_;clear hWt;rintro e wq ⟨rfl,rfl⟩;go_wp2_with fail
      refine hBg.out.mono ?_;clear hBg;rintro e wq ⟨rfl,rfl⟩;go_wp2_with fail
      refine hli10.out.mono ?_;clear hli10;rintro e w11 ⟨lvv,rfl,hrow,hb11⟩
      obtain⟨LA,Lc,hform⟩:∃A c,lvv=.slice A nf c:=by
       rcases hrow.2 with⟨rfl,e⟩ | ⟨gg,cap,cur,rfl,_⟩
       ·exact⟨none,0,by rw[e]⟩
       ·exact⟨_,cap,rfl⟩
      subst hform;have hz11:=hb11.size;have hoF11:=own_belowJ hoF.out hb11;have hoT11:=own_belowJ (own_belowJ hoT.out hb10.out) hb11
      have hFlt:∀k,FA=some ⟨k,0,none⟩→w9.heap.size≤k:=fun k e=>by
       subst e;exact (own_lt hoF.out k rfl).1
      have hTlt:∀k,(Value.slice TA li Tc).ownBlock=some k→w8.heap.size≤k∧k<w9.heap.size:=fun k e=>own_lt hoT.out k e;have hgF:GotF w11 FA (namesT m nf) 0:=GotF.of (B:=w9.heap.size) (c:=Fc) (by rw[namesT_len];exact hoF11);have hb811:Below w8.heap.size w8 w11:=hb810.out.trans (hb11.mono (by omega));replace hgF:=Lib.hid hgF;replace hoT11:=Lib.hid hoT11;replace hFlt:=Lib.hid hFlt;replace hTlt:=Lib.hid hTlt;replace hb811:=Lib.hid hb811;replace hb11:=Lib.hid hb11;clear hrow hoF11;go_wp2_with fail
      go_loopw [21] (fun jv wr=>∃j:Nat,j≤nf∧jv=.int .i64 (j:Nat)∧KeptBut w11 wr (fun k=>FA=some ⟨k,0,none⟩)∧GotF wr FA (namesT m nf) j) (fun jv _=>nf-(intOf jv).toNat)
      case atStart=>exact⟨0,Nat.zero_le _,rfl,.refl _ _,hgF.out⟩
      case round =>
       obtain⟨j,hj,rfl,hkf,hgf⟩:=hrel;have hzf:=hkf.size
       by_cases hjl:j<nf
       ·have hjl':(j:Int)<nf:=by omega
        have hnj:(namesT m nf)[j]? = some (nameT (m+j)):=by
         unfold namesT;rw[List.getElem?_map,List.getElem?_range hjl];rfl
        obtain⟨gf,cur,hA,hgB,hgc,hcell⟩:=hgf.at_ hnj;obtain⟨q,hq⟩:∃q,m+j=q:=⟨_,rfl⟩;rw[hq] at hcell hnj
        have hq1:(m:Int)+(j:Int)=(q:Nat):=by omega
        have hq64:q<18446744073709551616:=by omega
        replace hq:=Lib.hid hq;have hgl:=hgB.lt;have hb8r:Below w8.heap.size w8 wr:=hkf.below_of hb811.out (fun k e=>by have:=hFlt.out k e;omega);have hbwr:=hbw8.out.trans (hb8r.mono hzw8);have hnm:=fun (W:World) (hW:Below wr.heap.size wr W)=>Name_any (bs tabW) q (by decide) hq64 W (h5.out.low (hbwr.trans (hW.mono hbwr.size)) (by omega))
        replace hnm:∀W:World,Below wr.heap.size wr W→Calls Tryz.prog 25 #[.string ⟨#[116,97,98,108,101]⟩,.int .u64 (q:Nat)] W fun e w'=>e=.returned (.string (bs (nameT q)))∧Below W.heap.size W w':=fun W hW=>by
         have:=hnm W hW
         rwa [bs_data] at this
        subst hA;replace hnm:=Lib.hid hnm;replace hb8r:=Lib.hid hb8r;replace hbwr:=Lib.hid hbwr;replace hgc:=Lib.hid hgc;replace hnj:=Lib.hid hnj;replace hgB:=Lib.hid hgB;replace hkf:=Lib.hid hkf;clear hgf;go_wp2_with fail
        have hxc:=@Ext.cell;refine wp_region_ext (by kernel_rfl) (by kernel_rfl) ?_
        repeat (go_big_quiet_step ((first | (go_at_call 25;exact Calls.ext (hnm.out _ (Ext.below _))))))
        refine wpQuiet_nil ?_;clear hxc;intro wx hwx;obtain⟨x,hx⟩:=hwx;have hb:=x.below;rw[←hx] at hb;clear hx x;have hgBx:=hgB.out.below hb hgB.out.lt
        have hkfx:=hkf.out.then_below hb
        have hcx:=(hb.cell (p:=⟨gf,j,none⟩) hgl).trans hcell;have hfx:=hgBx.frozen j;have hglx:=hgBx.lt;have hset:=GotF.set (FA:=some ⟨gf,0,none⟩) rfl hgBx hgc.out (.string ⟨#[116,117,114,110,101,100]⟩)
        have hkset:KeptBut w11 (wx.setCell ⟨gf,j,none⟩ (.string ⟨#[116,117,114,110,101,100]⟩)) (fun k=>some (⟨gf,0,none⟩:Addr)=some ⟨k,0,none⟩):=hkfx.then_set rfl
        replace hset:=Lib.hid hset;replace hkset:=Lib.hid hkset;clear hgBx hkfx hb hcell;go_wp2_with fail
        exact⟨⟨j+1,by omega,by go_num,hkset.out,hset.out⟩,by simp[intOf];omega⟩
       ·obtain rfl:j=nf:=by omega
        have hjl':¬(j:Int)<j:=by omega
        obtain⟨wf,rfl⟩:∃y,y=wr:=⟨_,rfl⟩;have hb8f:Below w8.heap.size w8 wf:=hkf.below_of hb811.out (fun k e=>by have:=hFlt.out k e;omega);have hoTf:=own_kept hoT11.out hkf (fun k e e2=>by have:=(hTlt.out k e).2;have:=hFlt.out k e2;omega);have hgT:GotT wf TA (tabsT m lv LS li) 0:=GotT.of (B:=w8.heap.size) (c:=Tc) (by rw[tabsT_len];exact hoTf);replace hgT:=Lib.hid hgT;replace hb8f:=Lib.hid hb8f;clear hgf hoTf;replace hkf:=Lib.hid hkf;go_wp2_with fail
        go_loopw [22,23] (fun jv pv wr=>∃j:Nat,j≤li∧jv=.int .i64 (j:Nat)∧Below w8.heap.size w8 wr∧GotT wr TA (tabsT m lv LS li) j) (fun jv _ _=>li-(intOf jv).toNat)
        case atStart=>exact⟨0,Nat.zero_le _,rfl,hb8f.out,hgT.out⟩
        case round =>
         obtain⟨i,hi,rfl,hb8r,hgt⟩:=hrel;have hz8r:=hb8r.size
         by_cases hil:i<li
         ·have hil':(i:Int)<li:=by omega
          have hiF:i<FL.length:=by have:=hNF.out;omega
          have hiL:i<LS.length:=by have:=hN.out;omega
          obtain⟨x,hx⟩:∃x,FL[i]? = some x:=⟨_,List.getElem?_eq_getElem hiF⟩;have hxR:=hsub.out _ (List.mem_of_getElem? hx)
          have hxl:x.l=LS.getD i []:=by
           rw[←hFm.out,List.getD_eq_getElem?_getD,List.getElem?_map,hx];rfl
          have hok:=hLs.out.at_ hiL;have hti:=tabsT_at (n:=m) (lv:=lv) (ls:=LS) (k:=li) hil;rw[finJ_tab hok] at hti;obtain⟨f,ix,bls,hop,hrg,hblx,hfl⟩:=table_back (n:=m+i) (lv:=lv) hok;have htr:=htabR.out i hil;have hl60:=hok.len;have hlp:=hok.pos;have hlsq:=hok.seq;obtain⟨gt,cur,hTA,hgB,hgc,htc⟩:=hgt.at_ hti;have hoSr:=own_belowJ (hkr8.out.own hoS0.out hoSb.out) hb8r;obtain⟨fb,hfab,hfb1,hfc⟩:=rowF_at (F:=FL) (w:=wr) (A:=SA) (c:=Sc) (i:=i) (by rw[hNF.out];exact hoSr) hx;have hbBr:Below B0 w2 wr:=hbB8.out.trans (hb8r.mono hB08);have hxr:=((hlR.out.below hbBr).each _ hxR).1.more (show B0≤wr.heap.size by omega);rw[hxl] at hfc hxr;obtain⟨q,hq⟩:∃q,m+i=q:=⟨_,rfl⟩;rw[hq] at htr hop hfl hti htc
          have hq1:(m:Int)+(i:Int)=(q:Nat):=by omega
          have hq64:q<18446744073709551616:=by omega
          generalize LS.getD i []=l at *
          generalize fileT q lv l=S at *
          have hbwr:=hbw8.out.trans (hb8r.mono hzw8);have hzwr:=hbwr.size;rw[←entsC_F] at hxr;have hTb:=RTable_any (cap:=x.c) hxr hlp (by omega) hlsq lv q;obtain⟨M,hM⟩:∃M,l.length=M:=⟨_,rfl⟩;rw[hM] at hTb hfc
          have htE:tabR l lv q S.length=⟨q,lv,M,S.length,(tabR l lv q 0).first,(tabR l lv q 0).last,(tabR l lv q 0).least,(tabR l lv q 0).most⟩:=by rw[←hM];rfl
          have htE0:tabR l lv q 0=⟨q,lv,M,0,(tabR l lv q 0).first,(tabR l lv q 0).last,(tabR l lv q 0).least,(tabR l lv q 0).most⟩:=by rw[←hM];rfl
          rw[htE0] at hTb;rw[htE] at htc hti
          generalize (tabR l lv q 0).first=tf at *
          generalize (tabR l lv q 0).last=tl at *
          generalize (tabR l lv q 0).least=tn at *
          generalize (tabR l lv q 0).most=tm at *
          obtain⟨sz,hsz⟩:∃z,S.length=z:=⟨_,rfl⟩;rw[hsz] at htc hti hfl;subst hfab;have hJr2:=(hJ8.out.below hb8r).1.dx_;have hDr:=hJr2.grow (Below.refl _ _) (Y:=fun k=>False) (fun k q=>q.elim);have hTA2:=hTA;subst hTA;have hgl:=hgB.lt;have hg8:w8.heap.size≤gt:=(hTlt.out gt rfl).1;have t0:=htc 0 (by decide);have t1:=htc 1 (by decide);have t2:=htc 2 (by decide);have t3:=htc 3 (by decide);have t4:=htc 4 (by decide);have t5:=htc 5 (by decide);have t6:=htc 6 (by decide);have t7:=htc 7 (by decide);unfold tiC strV at t0 t1 t2 t3 t4 t5 t6 t7 hTb;simp only at hTb;rw[Nat.add_zero] at t0;have hho:=fun (W:World) (hW:Below wr.heap.size wr W)=>holds_any hgn.out (by omega) (hDr.grow hW (Y:=fun k=>False) (fun k q=>q.elim)) (hG.out.below (hbwr.trans (hW.mono hzwr)) (by omega)) (h5.out.low (hbwr.trans (hW.mono hzwr)) (by omega)) (by have:=hW.size;omega) ⟨q,lv,M,sz,tf,tl,tn,tm⟩ hq64 htr hsz.symm (by rw[hsz];exact hfl) hop hrg hblx (A:=x.A) (cap:=x.c) ((hxr.below hW).more hW.size) (by omega);rw[hM] at hho;unfold tiC strV at hho;simp only at hho;replace hho:=Lib.hid hho;replace hTb:=Lib.hid hTb;replace hq:=Lib.hid hq;replace hM:=Lib.hid hM;replace hsz:=Lib.hid hsz;replace hgc:=Lib.hid hgc;replace hgB:=Lib.hid hgB;replace hb8r:=Lib.hid hb8r;replace hbwr:=Lib.hid hbwr;replace hDr:=Lib.hid hDr;clear htr hop hrg hblx hfl htc hti hxr hxR hx hxl hl60 hlp hlsq hok hoSr hbBr hJr2 htE htE0 hgt hTA2;go_wp2_with fail
          refine hTb.out.mono ?_;clear hTb;rintro e wt ⟨rfl,hbt⟩;have hzt:=hbt.size;have s0:=(hbt.cell (p:=⟨gt,i*8,none⟩) hgl).trans t0;have s1:=(hbt.cell (p:=⟨gt,i*8+1,none⟩) hgl).trans t1;have s2:=(hbt.cell (p:=⟨gt,i*8+2,none⟩) hgl).trans t2;have s3:=(hbt.cell (p:=⟨gt,i*8+3,none⟩) hgl).trans t3;have s4:=(hbt.cell (p:=⟨gt,i*8+4,none⟩) hgl).trans t4;have s5:=(hbt.cell (p:=⟨gt,i*8+5,none⟩) hgl).trans t5;have s6:=(hbt.cell (p:=⟨gt,i*8+6,none⟩) hgl).trans t6;have s7:=(hbt.cell (p:=⟨gt,i*8+7,none⟩) hgl).trans t7;have sf:=(hbt.cell (p:=⟨fb,i,none⟩) hfb1).trans hfc
          have hglt:gt<wt.heap.size:=by omega
          have hfbt:fb<wt.heap.size:=by omega
          clear t0 t1 t2 t3 t4 t5 t6 t7 hfc hfb1;replace hbt:=Lib.hid hbt;go_wp2_with fail
          have hal:Below wt.heap.size wt (wt.alloc (.cells #[.int .u64 (q:Nat),.int .i64 lv,.int .i64 (M:Nat),.int .i64 (sz:Nat),.string (bs tf),.string (bs tl),.int .u64 (tn:Nat),.int .u64 (tm:Nat)] 51)):=(Below.refl _ _).alloc (Nat.le_refl _) _;have hWn:=Blk.new wt 51 #[.int .u64 (q:Nat),.int .i64 lv,.int .i64 (M:Nat),.int .i64 (sz:Nat),.string (bs tf),.string (bs tl),.int .u64 (tn:Nat),.int .u64 (tm:Nat)];obtain⟨gw,hgw⟩:∃y,wt.heap.size=y:=⟨_,rfl⟩;obtain⟨wn,hwn⟩:∃y,wt.alloc (.cells #[.int .u64 (q:Nat),.int .i64 lv,.int .i64 (M:Nat),.int .i64 (sz:Nat),.string (bs tf),.string (bs tl),.int .u64 (tn:Nat),.int .u64 (tm:Nat)] 51)=y:=⟨_,rfl⟩;rw[hwn] at hal hWn ⊢;have r0:=(hal.cell (p:=⟨gt,i*8,none⟩) hglt).trans s0;have r1:=(hal.cell (p:=⟨gt,i*8+1,none⟩) hglt).trans s1;have r2':=(hal.cell (p:=⟨gt,i*8+2,none⟩) hglt).trans s2;have r3:=(hal.cell (p:=⟨gt,i*8+3,none⟩) hglt).trans s3;have r4:=(hal.cell (p:=⟨gt,i*8+4,none⟩) hglt).trans s4;have r5:=(hal.cell (p:=⟨gt,i*8+5,none⟩) hglt).trans s5;have r6:=(hal.cell (p:=⟨gt,i*8+6,none⟩) hglt).trans s6;have r7:=(hal.cell (p:=⟨gt,i*8+7,none⟩) hglt).trans s7;have rf:=(hal.cell (p:=⟨fb,i,none⟩) hfbt).trans sf;have hzn:=hal.size;have hbn:Below wr.heap.size wr wn:=hbt.out.trans (hal.mono hzt);have hho2:=fun (W:World) (hW:Below wn.heap.size wn W)=>hho.out W (hbn.trans (hW.mono hbn.size));rw[hgw] at hWn ⊢;have p0:=hWn.cell 0;have p1:=hWn.cell 1;have p2:=hWn.cell 2;have p3:=hWn.cell 3;have p4:=hWn.cell 4;have p5:=hWn.cell 5;have p6:=hWn.cell 6;have p7:=hWn.cell 7
          have pl:=hWn.lt
          have hgtn:gt<wn.heap.size:=by omega
          have hfbn:fb<wn.heap.size:=by omega
          replace hho2:=Lib.hid hho2;replace hbn:=Lib.hid hbn;replace hwn:=Lib.hid hwn;replace hgw:=Lib.hid hgw;replace hWn:=Lib.hid hWn;replace hal:=Lib.hid hal;clear hho s0 s1 s2 s3 s4 s5 s6 s7 sf hglt hfbt;go_wp2_with fail
          have hxc:=@Ext.cell;refine wp_region_ext (by kernel_rfl) (by kernel_rfl) ?_
          repeat (go_big_quiet_step ((first | (go_at_call 27;exact Calls.ext (hho2.out _ (Ext.below _))))))
          refine wpQuiet_nil ?_;clear hxc;intro wx hwx;obtain⟨x,hx⟩:=hwx;have hb:=x.below;rw[←hx] at hb;clear hx x;have hbnx:=hbn.out.trans (hb.mono hbn.out.size);have hgBx:=hgB.out.below hbnx hgB.out.lt;have hcx:=(hb.cell (p:=⟨gt,i*8,none⟩) hgtn).trans r0;have hfx:=hgBx.frozen (i*8);have hglx:=hgBx.lt;have hset:=GotT.set (TA:=some ⟨gt,0,none⟩) rfl hgBx hgc.out (.int .u64 77);have hb8x:=(hb8r.out.trans (hbnx.mono hz8r)).setCell (p:=⟨gt,i*8,none⟩) hg8 (.int .u64 77);replace hset:=Lib.hid hset;replace hb8x:=Lib.hid hb8x;clear hgBx hbnx hb r0 r1 r2' r3 r4 r5 r6 r7 rf p0 p1 p2 p3 p4 p5 p6 p7 hho2;go_wp2_with fail
          exact⟨⟨i+1,by omega,by go_num,hb8x.out,hset.out⟩,by simp[intOf];omega⟩
         ·obtain rfl:i=li:=by omega
          have hil':¬(i:Int)<i:=by omega
          have hJe:=(hJ8.out.below hb8r).1
          have hke:Keeps K2 w7 wr:=hkr8.out.then_below hb8r (fun k q=>by have:=hK2t.out k q;omega)
          have hWe:WrI m lv LS (t+1-1) r2:=by rw[Nat.add_sub_cancel];exact hWn.out
          have hJe2:JRun K2 wr g d r2.s m lv vl os r2.J r2.done r2.over r2.dead True:=by rw[hWn.out.over,hWn.out.dead,hdb.out];exact hJe
          replace hJe:=Lib.hid hJe;replace hke:=Lib.hid hke;replace hWe:=Lib.hid hWe;replace hJe2:=Lib.hid hJe2;replace hb8r:=Lib.hid hb8r;clear hgt;go_wp2_with fail
          exact⟨⟨t+1,r2,by omega,by omega,by go_num,hJe2.out,hgn.out.more (by omega),hke.out,hWe.out⟩,by simp[intOf];omega⟩
     ·have hlt':¬(t:Int)≤ST:=by omega
      obtain⟨hdn,hlN⟩:=hWr.last (by rw[hST.out];omega);have hJd:=hJr;rw[hdn,hWr.over,hWr.dead] at hJd;have hsd:=Step_done hJd hWr.disk.calm.off;rw[hN.out] at hlN;have hts:=hWr.disk.ts;have hoffr:=hWr.disk.calm.off;replace hsd:=Lib.hid hsd;replace hJd:=Lib.hid hJd;replace hJr:=Lib.hid hJr;replace hgr:=Lib.hid hgr;replace hkr:=Lib.hid hkr;replace hWr:=Lib.hid hWr;replace hdn:=Lib.hid hdn;replace hlN:=Lib.hid hlN;replace hts:=Lib.hid hts;replace hoffr:=Lib.hid hoffr;go_wp2_with fail
      refine hsd.out.mono ?_;clear hsd;rintro e w8 ⟨rfl,hk8,hJ8⟩;have hfT:=Tables_any hJ8 (by rw[hts.out,tabsT_len,hlN.out];omega);rw[hts.out,tabsT_len,hlN.out] at hfT;have hk8r:=hkr.out.trans hk8 (fun _=>id);have hbw8:Below w.heap.size w w8:=hbw7.out.trans (hk8r.below (fun k q=>hK2l.out k (by omega)));replace hfT:=Lib.hid hfT;replace hbw8:=Lib.hid hbw8;replace hJ8:=Lib.hid hJ8;replace hk8:=Lib.hid hk8;replace hk8r:=Lib.hid hk8r;go_wp2_with fail
      refine hfT.out.mono ?_;clear hfT;rintro e w9 ⟨TA,Tc,rfl,hoT,hb9⟩;have hbw9:=hbw8.out.trans (hb9.mono hbw8.out.size);have hzw9:=hbw9.size;have haw:=jawake_any (hG.out.below hbw9 (by omega)) (h5.out.low hbw9 (by omega)) (by omega);replace haw:=Lib.hid haw;replace hbw9:=Lib.hid hbw9;clear hoT hb9;go_wp2_with fail
      refine haw.out.mono ?_;rintro e wz ⟨rfl,hbz⟩;have hfin:=Lib.hid (hbw9.out.trans (hbz.mono hzw9));clear hbz;go_wp2_with fail
      go_ret
      exact⟨rfl,hfin.out⟩
end Go.Proofs.YtlpojfgeocpkeaaGreatDoor
