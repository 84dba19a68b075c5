/- JobLasts walked. -/
import Derived.Test.YtlpojfgeocpkeaaGreatDoorX41
import Derived.Test.YtlpojfgeocpkeaaGreatDoorJLs2J
import Derived.Test.YtlpojfgeocpkeaaGreatDoorX39
namespace Go.Proofs.YtlpojfgeocpkeaaGreatDoor
open Go.RowKit Go.Sort
set_option linter.unusedVariables false
set_option linter.unusedSimpArgs false
theorem own_moreJ {w:World}{B B' e m n:Nat}{v:Value}{xs:List Value}(h:w.ownsRow B e m v n xs)(hB:B'≤B):w.ownsRow B' e m v n xs:=by
 refine⟨h.1,?_⟩;rcases h.2 with q | ⟨g,cap,cur,q1,q2,q3⟩
 ·exact .inl q
 ·exact .inr ⟨g,cap,cur,q1,Nat.le_trans hB q2,q3⟩
theorem own_belowJ {w w':World}{B e m n:Nat}{v:Value}{xs:List Value}(h:w.ownsRow B e m v n xs)(hb:Below w.heap.size w w'):w'.ownsRow B e m v n xs:=own_block h (fun k hk=>hb.block k (own_lt h k hk).2)
theorem rowF_at {w:World}{A:Option Addr}{c:Nat}{F:List EL}(h:w.ownsRow 0 44 1 (.slice A F.length c) F.length (F.flatMap elV)){i:Nat}{x:EL}(hx:F[i]? = some x):∃b,A=some ⟨b,0,none⟩∧b<w.heap.size∧w.cell? ⟨b,i,none⟩=some (.slice x.A x.l.length x.c):=by
 have hi:i<F.length:=(List.getElem?_eq_some_iff.1 hx).1;rcases h.2 with⟨e,e2⟩ | ⟨g,cap,cur,e,_,hg,_⟩
 ·omega
 ·injection e with e1 e2 e3;subst e1;have hc:=World.ownsRow.cells h (g:=g) rfl i _ (elV_at F i x hx);rw[add_flat,Nat.zero_add] at hc;exact⟨g,rfl,Blk.lt hg,hc⟩
set_option maxRecDepth 100000 in
set_option maxHeartbeats 8000000 in
theorem JobLasts_any {w:World}{A:Option Addr}{ls:List EL}{cap:Nat}(c:Cra)(KA PA:Option Addr)(kc pc:Nat)(hcr:CraR w.heap.size w c KA PA)(hck:c.keep.length≤9223372036854775807)(hcp:c.spoil.length≤9223372036854775807)(h:LsAt w w.heap.size A ls)(hL:ls.length≤9223372036854775807)(hs:∀x∈ls,x.l.length≤9223372036854775807∧∀e∈x.l,e.key.length≤9223372036854775807∧e.value.length≤9223372036854775807)(hG:Gl w)(h5:Tab w)(hz7:7≤w.heap.size) :
  Calls Tryz.prog 6 #[.slice A ls.length cap,.agg #[.int .i64 c.names,.slice KA c.keep.length kc,.slice PA c.spoil.length pc]] w fun e w'=>e=.returned (.bool true)∧Below w.heap.size w w':=by
 obtain⟨w0,hw0⟩:∃x,w=x:=⟨_,rfl⟩;have hgr:=Lib.hid (fun (W:World) (hb:Below w.heap.size w W)=>Great_any (cap:=cap) ((h.below hb).more hb.size) hL hs);obtain⟨N0,hN0⟩:∃N,ls.length=N:=⟨_,rfl⟩;rw[hN0] at hgr ⊢;clear hw0;replace h:=Lib.hid h;replace hs:=Lib.hid hs;replace hG:=Lib.hid hG;replace h5:=Lib.hid h5;replace hN0:=Lib.hid hN0;replace hcr:=Lib.hid hcr;replace hck:=Lib.hid hck;have hbc0:=Blk.new w 58 #[.int .i64 c.names,.slice KA c.keep.length kc,.slice PA c.spoil.length pc];have hb00:Below w.heap.size w (w.alloc (.cells #[.int .i64 c.names,.slice KA c.keep.length kc,.slice PA c.spoil.length pc] 58)):=(Below.refl _ _).alloc (Nat.le_refl _) _
 have hz00:(w.alloc (.cells #[.int .i64 c.names,.slice KA c.keep.length kc,.slice PA c.spoil.length pc] 58)).heap.size=w.heap.size+1:=by simp
 have hgr1:=hgr.out _ hb00;replace hgr1:=Lib.hid hgr1;replace hbc0:=Lib.hid hbc0;replace hb00:=Lib.hid hb00;replace hz00:=Lib.hid hz00;clear hgr
 go_enter Tryz.func6,Tryz.ntmps6
 go_wp2_with fail
 refine hgr1.out.mono ?_;clear hgr1;rintro e w1 ⟨rb,rfl,hrb,hb1⟩;have hbc1:=hbc0.out.below hb1 hbc0.out.lt;have hb01:=hb00.out.trans (hb1.mono hb00.out.size);have hz1:=hb01.size;have hbz1:w.heap.size<w1.heap.size:=hbc1.lt;clear hb1 hbc0 hb00 hz00
 cases rb with
 | true =>
  have haw:=jawake_any (hG.out.below hb01 (by omega)) (h5.out.low hb01 (by omega)) (by omega);replace haw:=Lib.hid haw;replace hb01:=Lib.hid hb01;clear hrb;go_wp2_with fail
  refine haw.out.mono ?_;clear haw;rintro e w2 ⟨rfl,hb2⟩;have hfin:=Lib.hid (hb01.out.trans (hb2.mono hz1));replace hb2:=Lib.hid hb2;go_wp2_with fail
  go_ret
  exact⟨rfl,hfin.out⟩
 | false =>
  obtain⟨hl6,hokE,hsz⟩:=hrb rfl;have hls1:=(h.out.below hb01).more hz1;have hri:=Right_any (cap:=cap) hls1 (by rw[hN0.out];exact hl6) (fun x hx=>(hokE x hx).1) (fun x hx=>(hokE x hx).2);rw[hN0.out] at hri;have h60:∀x∈ls,x.l.length≤60:=fun x hx=>(hokE x hx).1;replace hri:=Lib.hid hri;replace hb01:=Lib.hid hb01;replace h60:=Lib.hid h60;replace hl6:=Lib.hid hl6;replace hbc1:=Lib.hid hbc1;clear hls1 hokE hrb hsz;go_wp2_with fail
  refine hri.out.mono ?_;clear hri;rintro e w2 ⟨vR,oR,rfl,hoR,homR,hb2⟩;have hz2:=hb2.size;obtain⟨hr1,hr2,hr3,hr4⟩:=right_ok homR h60.out;obtain⟨AR,cR,rfl⟩:=hoR.form;have hlR:=hoR.ls hr4;have hnew:=New_dx 1048576 w2 (X:=fun k=>k<w2.heap.size) (fun k q=>q);have hbc2:=hbc1.out.below hb2 hbc1.out.lt;obtain⟨B1,hB1⟩:∃b,w2.heap.size=b:=⟨_,rfl⟩;have hbw2:=hb01.out.trans (hb2.mono hz1);have hBz2:B1≤w2.heap.size:=Nat.le_of_eq hB1.symm;rw[hB1] at hnew hlR
  have hBw:w.heap.size<B1:=by omega
  replace hnew:=Lib.hid hnew;replace hlR:=Lib.hid hlR;replace hr1:=Lib.hid hr1;replace hr2:=Lib.hid hr2;replace hr4:=Lib.hid hr4;replace hbw2:=Lib.hid hbw2;replace hoR:=Lib.hid hoR;replace homR:=Lib.hid homR;replace hb2:=Lib.hid hb2;replace hB1:=Lib.hid hB1;replace hr3:=Lib.hid hr3;replace hbc2:=Lib.hid hbc2;replace hBz2:=Lib.hid hBz2;clear hbc1;go_wp2_with fail
  refine hnew.out.mono ?_;clear hnew;rintro e w3 ⟨d,rfl,hD3,hb3,hd3⟩;have hz3:=hb3.size
  have hz3b:B1≤w3.heap.size:=by have:=hB1.out;omega
  have hX3:∀k,(fun k=>k<B1) k→k<w3.heap.size:=fun k (q:k<B1)=>by omega
  obtain⟨e1,e2,e3,e4,hcal,hfil,⟨i0,hheld⟩,hnin⟩:=own_begin other_right;have hlc:=own_last other_right;obtain⟨g1,g2,g3,g4⟩:=own_good otherW;have hC:=Create_dx hD3 hX3 (Dsk.Good.new 1048576) (by decide) (bs otherW) (by decide);rw[bs_data,show (Dsk.new 1048576).create otherW=ownD1 otherW from rfl,e1] at hC;have hBk3:Below B1 w2 w3:=hb3;have hbo:BaseOk 5 (baseN otherW) [otherW]:=baseN_ok (by decide) (fun i hi=>nameT_other _);replace hC:=Lib.hid hC;replace hD3:=Lib.hid hD3;replace hb3:=Lib.hid hb3;replace hBk3:=Lib.hid hBk3;replace hX3:=Lib.hid hX3;replace hcal:=Lib.hid hcal;replace hfil:=Lib.hid hfil;replace hheld:=Lib.hid hheld;replace hnin:=Lib.hid hnin;replace hlc:=Lib.hid hlc;replace hbo:=Lib.hid hbo;replace e2:=Lib.hid e2;replace e3:=Lib.hid e3;replace e4:=Lib.hid e4;replace g1:=Lib.hid g1;replace g2:=Lib.hid g2;replace g3:=Lib.hid g3;replace g4:=Lib.hid g4;clear e1;go_wp2_with fail
  refine hC.out.mono ?_;clear hC;rintro e w4 ⟨rfl,hD4,hk4⟩;have hz4:=hk4.size
  have hX4:∀k,(fun k=>k<B1) k→k<w4.heap.size:=fun k (q:k<B1)=>by omega
  have hAp:=Append_dx hD4 hX4 g1.out (by decide) (bs otherW) (by decide) (bs textW) (by decide);rw[bs_data,bs_data,show (ownD1 otherW).1.append otherW textW=ownD2 otherW from rfl,e2.out] at hAp;replace hAp:=Lib.hid hAp;replace hD4:=Lib.hid hD4;replace hk4:=Lib.hid hk4;replace hX4:=Lib.hid hX4;go_wp2_with fail
  refine hAp.out.mono ?_;clear hAp;rintro e w5 ⟨rfl,hD5,hk5⟩;have hz5:=hk5.size
  have hX5:∀k,(fun k=>k<B1) k→k<w5.heap.size:=fun k (q:k<B1)=>by omega
  have hSy:=Sync_dx hD5 hX5 g2.out (by decide) (bs otherW) (by decide);rw[bs_data,show (ownD2 otherW).1.sync otherW=ownD3 otherW from rfl,e3.out] at hSy;replace hSy:=Lib.hid hSy;replace hD5:=Lib.hid hD5;replace hk5:=Lib.hid hk5;replace hX5:=Lib.hid hX5;go_wp2_with fail
  refine hSy.out.mono ?_;clear hSy;rintro e w5a ⟨rfl,hD5a,hk5a⟩;have hz5a:=hk5a.size
  have hX5a:∀k,(fun k=>k<B1) k→k<w5a.heap.size:=fun k (q:k<B1)=>by omega
  have hDs:=DirSync_dx hD5a hX5a g3.out;rw[show (ownD3 otherW).1.dirsync=ownD4 otherW from rfl,e4.out] at hDs;replace hDs:=Lib.hid hDs;replace hD5a:=Lib.hid hD5a;replace hk5a:=Lib.hid hk5a;replace hX5a:=Lib.hid hX5a;go_wp2_with fail
  refine hDs.out.mono ?_;clear hDs;rintro e w6 ⟨rfl,hD6,hk6⟩;have hz6:=hk6.size;obtain⟨s2,hs2⟩:∃x,(ownD4 otherW).1=x:=⟨_,rfl⟩;have hcal2:=hcal.out;have hfil2:=hfil.out;have hheld2:=hheld.out;have hlc2:=hlc.out;have hg2:=g4.out;rw[hs2] at hD6 hg2 hcal2 hfil2 hheld2 hlc2;have hBk6:Below B1 w2 w6:=(((hBk3.out.trans (hk4.out.below (fun k q=>q))).trans (hk5.out.below (fun k q=>q))).trans (hk5a.out.below (fun k q=>q))).trans (hk6.below (fun k q=>q));have hls6:=(hlR.out.below hBk6).more (show B1≤w6.heap.size by omega);have hbw6:=hbw2.out.trans (hBk6.mono (by omega));have hbc6:=hbc2.out.below hBk6 hBw;have hnj:=new_run 0 5 hD6 hls6 (by rw[hr3.out,hN0.out];exact hl6.out) hr1.out hr2.out (hG.out.below hbw6 (by omega)) (h5.out.low hbw6 (by omega)) (by omega) (by omega) (cap:=cR);rw[hr3.out,hN0.out] at hnj ⊢;replace hnj:=Lib.hid hnj;replace hD6:=Lib.hid hD6;replace hk6:=Lib.hid hk6;replace hbw6:=Lib.hid hbw6;replace hBk6:=Lib.hid hBk6;replace hls6:=Lib.hid hls6;replace hg2:=Lib.hid hg2;replace hs2:=Lib.hid hs2;replace hcal2:=Lib.hid hcal2;replace hfil2:=Lib.hid hfil2;replace hheld2:=Lib.hid hheld2;replace hlc2:=Lib.hid hlc2;replace hbc6:=Lib.hid hbc6;clear hcal hfil hheld hnin hlc e2 e3 e4 g1 g2 g3 g4 hX3 hX4 hX5 hX5a hbc2;go_wp2_with fail
  refine hnj.out.mono ?_;clear hnj;rintro e w7 ⟨K,vl,os,rfl,hKl,hJ,hk,hom,hb7⟩;have hz7':=hb7.size;have hbw:=hbw6.out.trans (hb7.mono (by omega));have hLs:=hk.lsok;obtain⟨LS,hLS⟩:∃x,os.map (·.l)=x:=⟨_,rfl⟩;rw[hLS] at hLs;obtain⟨g,hg⟩:∃x,w6.heap.size=x:=⟨_,rfl⟩;rw[hg] at hJ ⊢;have hJ7lt:=hJ.lt;obtain⟨N,hN⟩:∃N,LS.length=N:=⟨_,rfl⟩
  have hN6:N≤6:=by rw[←hN];exact hLs.few
  have hNf:(oR.filter fullP).length=N:=by
   have:=congrArg List.length hom;rw[List.length_map,List.length_map] at this;rw[←this,←hN,←hLS,List.length_map]
  have hB27:Below B1 w2 w7:=hBk6.out.trans (hb7.mono (by omega));have hbc7:=hbc6.out.below hb7 hbc6.out.lt
  have hI0:FuI 0 5 0 LS (baseN otherW) (JobN LS.length) (LaQ i0 LS.length) 0 ⟨⟨0,0,[],[]⟩,s2,false,0,false,false,false⟩ :=
   FuI.start hLs hcal2.out hfil2.out ⟨hheld2.out,fun _=>hlc2.out⟩
  have hen:=jends_any hJ hk hLS hLs hbo.out hg2.out (by decide) (by decide) hI0 (la_pres i0 LS.length hLs.few) (fun i hi=>⟨i,hi,rfl⟩);replace hJ:=Lib.hid hJ;replace hk:=Lib.hid hk;replace hom:=Lib.hid hom;replace hb7:=Lib.hid hb7;replace hbw:=Lib.hid hbw;replace hLs:=Lib.hid hLs;replace hLS:=Lib.hid hLS;replace hKl:=Lib.hid hKl;replace hg:=Lib.hid hg;replace hN:=Lib.hid hN;replace hNf:=Lib.hid hNf;replace hJ7lt:=Lib.hid hJ7lt;replace hB27:=Lib.hid hB27;replace hen:=Lib.hid hen;replace hbc7:=Lib.hid hbc7;clear hbc6 hI0;go_wp2_with fail
  refine hen.out.mono ?_;clear hen;rintro e w9 ⟨r,rfl,hk9,hJr,hgr,ii,hIr,hrd⟩;obtain⟨he0,hts,hBk⟩:=lasts_back hLs.out hbo.out hIr hrd c;rw[he0];have hbc9:=hk9.blk hbc7.out (hKl.out _ hBw);have hz9:=hk9.size;have hbw9:=hbw.out.trans (hk9.below (fun k q=>hKl.out k (by omega)));have hbB9:Below B1 w2 w9:=hB27.out.trans (hk9.below (fun k q=>hKl.out k q));have htb:=Tables_any hJr (by rw[hts,tabsT_len];have:=hN.out;omega);rw[hts,tabsT_len,hN.out] at htb;have hDt:=hJr.dx_;obtain⟨st,hst⟩:∃x,r.s=x:=⟨_,rfl⟩;rw[hst] at hDt hBk hgr;replace htb:=Lib.hid htb;replace hDt:=Lib.hid hDt;replace hBk:=Lib.hid hBk;replace hgr:=Lib.hid hgr;replace hst:=Lib.hid hst;replace hbc9:=Lib.hid hbc9;replace hbw9:=Lib.hid hbw9;replace hbB9:=Lib.hid hbB9;replace hk9:=Lib.hid hk9;clear hIr hrd hJr he0 hts hJ;go_wp2_with fail
  refine htb.out.mono ?_;clear htb;rintro e wT ⟨TA,Tc,rfl,hoT,hbT⟩;have hzT:=hbT.size;have hbBT:=hbB9.out.trans (hbT.mono (by omega));have hso:=some_any (cap:=cR) ((hlR.out.below hbBT).more (show B1≤wT.heap.size by omega)) (by rw[hr3.out,hN0.out];have:=hl6.out;omega) (fun x hx=>by have:=hr2.out x hx;omega);rw[hr3.out,hN0.out] at hso;obtain⟨FL,hFL⟩:∃x,oR.filter fullP=x:=⟨_,rfl⟩;rw[hFL] at hso
  have hNF:FL.length=N:=by rw[←hFL];exact hNf.out
  have hsub:∀x∈FL,x∈oR:=fun x hx=>by rw[←hFL] at hx;exact (List.mem_filter.1 hx).1
  have hFm:FL.map (·.l)=LS:=by rw[←hFL,←hom.out];exact hLS.out
  replace hso:=Lib.hid hso;replace hoT:=Lib.hid hoT;replace hbT:=Lib.hid hbT;replace hbBT:=Lib.hid hbBT;replace hFL:=Lib.hid hFL;replace hNF:=Lib.hid hNF;replace hsub:=Lib.hid hsub;replace hFm:=Lib.hid hFm;go_wp2_with fail
  refine hso.out.mono ?_;clear hso;rintro e wS ⟨sv,rfl,hoS,hbS⟩
  obtain⟨SA,Sc,hsf⟩:∃A c,sv=.slice A FL.length c:=by
   rcases hoS.2 with⟨rfl,e⟩ | ⟨gg,cap,cur,rfl,_⟩
   ·exact⟨none,0,by rw[e]⟩
   ·exact⟨_,cap,rfl⟩
  subst hsf;have hzS:=hbS.size;have hb9S:=hbT.out.trans (hbS.mono hzT);have hDS:=hDt.out.grow hb9S (Y:=fun k=>K k∨(w9.heap.size≤k∧k<wS.heap.size)) (fun k q=>q.imp id (fun q=>q.1))
  have hKS:∀k,(fun k=>K k∨(w9.heap.size≤k∧k<wS.heap.size)) k→k<wS.heap.size:=fun k (q:K k∨(w9.heap.size≤k∧k<wS.heap.size))=>by
   rcases q with q | q
   ·have:=hJ7lt.out k q;omega
   ·exact q.2
  have hoT2:=own_moreJ (B':=0) (own_belowJ hoT.out hbS) (Nat.zero_le _);have hoS2:=own_moreJ (B':=0) hoS (Nat.zero_le _)
  have hkT:∀k,(Value.slice TA N Tc).ownBlock=some k→(fun k=>K k∨(w9.heap.size≤k∧k<wS.heap.size)) k:=fun k e=>by
   have:=own_lt hoT.out k e;exact .inr ⟨this.1,by omega⟩
  have hkS:∀k,(Value.slice SA FL.length Sc).ownBlock=some k→(fun k=>K k∨(w9.heap.size≤k∧k<wS.heap.size)) k:=fun k e=>by
   have:=own_lt hoS k e;exact .inr ⟨by omega,this.2⟩
  have hbwS:=hbw9.out.trans (hb9S.mono (by have:=hbw9.out.size;omega));have hbBS:=hbBT.out.trans (hbS.mono (by omega));have hbcS:=hbc9.out.below hb9S hbc9.out.lt;have hca:=(hcr.out.below hbwS (Nat.le_refl _)).at_ hbwS.size hck.out hcp;have hcr2:=Crash_dx hDS hKS hgr.out (by decide) c KA PA kc pc hca (fun ad e=>.inl (hKl.out _ (by have:=hcr.out.under (Nat.le_refl _) ad e;omega)));have hgc:=hgr.out.crash c;obtain⟨sc,hsc⟩:∃x,st.crash c=x:=⟨_,rfl⟩;have hBk:=hBk.out;rw[hsc] at hcr2 hgc hBk;unfold craV at hcr2;have hct0:=hbcS.cell 0;have hct1:=hbcS.cell 1;have hct2:=hbcS.cell 2;have hctz:=hbcS.lt;rw[hNF.out] at hoS2 hkS ⊢;obtain⟨X,hX⟩:∃X:Nat→Prop,(fun k=>K k∨(w9.heap.size≤k∧k<wS.heap.size))=X:=⟨_,rfl⟩
  have hXB:∀k,k<B1→X k:=fun k q=>by rw[←hX];exact .inl (hKl.out k q)
  rw[hX] at hcr2 hkT hkS hKS;replace hcr2:=Lib.hid hcr2;replace hgc:=Lib.hid hgc;replace hBk:=Lib.hid hBk;replace hsc:=Lib.hid hsc;replace hX:=Lib.hid hX;replace hXB:=Lib.hid hXB;replace hKS:=Lib.hid hKS;replace hkT:=Lib.hid hkT;replace hkS:=Lib.hid hkS;replace hoT2:=Lib.hid hoT2;replace hoS2:=Lib.hid hoS2;replace hbwS:=Lib.hid hbwS;replace hbBS:=Lib.hid hbBS;replace hbcS:=Lib.hid hbcS;replace hbS:=Lib.hid hbS;clear hca hDS hb9S hoS hoT hbc9;go_wp2_with fail
  refine hcr2.out.mono ?_;clear hcr2;rintro e wa ⟨rfl,hDa,hka⟩;have hza:=hka.size
  have hKa:∀k,X k→k<wa.heap.size:=fun k q=>by have:=hKS.out k q;omega
  have hsr:=Start_dx hDa hKa;have hgs:=hgc.out.start;obtain⟨ss,hss⟩:∃x,sc.start=x:=⟨_,rfl⟩;have hBk:=hBk.out;rw[hss] at hsr hgs hBk;replace hsr:=Lib.hid hsr;replace hgs:=Lib.hid hgs;replace hBk:=Lib.hid hBk;replace hss:=Lib.hid hss;replace hDa:=Lib.hid hDa;replace hka:=Lib.hid hka;clear hKa hct0 hct1 hct2 hctz;go_wp2_with fail
  refine hsr.out.mono ?_;clear hsr;rintro e wb ⟨rfl,hDb,hkb⟩;have hkS2:=hka.out.trans hkb (fun _=>id);have hzb:=hkS2.size;have hre:=Read_dx hDb hgs.out (by decide) (bs otherW) (by decide);rw[bs_data,hBk.out.other] at hre;have hoTb:=hkS2.own hoT2.out hkT.out;have hoSb:=hkS2.own hoS2.out hkS.out;have hbwb:=hbwS.out.trans (hkS2.below (fun k q=>hXB.out k (by omega)));have hbBb:=hbBS.out.trans (hkS2.below (fun k q=>hXB.out k q));have hli:=List_dx hDb hgs.out (by decide);rw[hBk.out.num,hN.out] at hli;replace hre:=Lib.hid hre;replace hli:=Lib.hid hli;replace hoTb:=Lib.hid hoTb;replace hoSb:=Lib.hid hoSb;replace hbwb:=Lib.hid hbwb;replace hbBb:=Lib.hid hbBb;replace hDb:=Lib.hid hDb;replace hkS2:=Lib.hid hkS2;replace hkb:=Lib.hid hkb;go_wp2_with fail
  refine hre.out.mono ?_;rintro e wc ⟨rfl,rfl⟩;have hbt:(bs textW).toList=[116,101,120,116]:=bs_toList _;clear hre;go_wp2_with fail
  refine hli.out.mono ?_;clear hli;rintro e wl ⟨lv,rfl,hrow,hbl⟩
  obtain⟨LA,Lc,hform⟩:∃A c,lv=.slice A (N+1) c:=by
   rcases hrow.2 with⟨rfl,e⟩ | ⟨gg,cap,cur,rfl,_⟩
   ·omega
   ·exact⟨_,cap,rfl⟩
  subst hform;have hzl:=hbl.size;have hDl:=hDb.out.grow hbl (Y:=fun k=>False) (fun k q=>q.elim);have hbwl:=hbwb.out.trans (hbl.mono (by have:=hbwb.out.size;omega));have hbBl:=hbBb.out.trans (hbl.mono (by have:=hbBb.out.size;omega));have hoTl:=own_belowJ hoTb.out hbl;have hoSl:=own_belowJ hoSb.out hbl;obtain⟨M,hM⟩:∃M,N+1=M:=⟨_,rfl⟩;rw[hM]
  have hM0:((M:Int) != (N:Int)+1)=false:=by rw[←hM];push_cast;simp
  replace hM:=Lib.hid hM;clear hrow hbt;replace hbl:=Lib.hid hbl;replace hDl:=Lib.hid hDl;replace hbwl:=Lib.hid hbwl;replace hbBl:=Lib.hid hbBl;replace hoTl:=Lib.hid hoTl;replace hoSl:=Lib.hid hoSl;go_wp2_with fail
  go_loopw [13] (fun iv wr=>∃k:Nat,k≤N∧iv=.int .i64 k∧Below wl.heap.size wl wr) (fun iv _=>N-(intOf iv).toNat)
  case atStart=>exact⟨0,Nat.zero_le _,rfl,Below.refl _ _⟩
  case round =>
   obtain⟨k,hk1,rfl,hbr⟩:=hrel;have hzr:=hbr.size;have hbwr:=hbwl.out.trans (hbr.mono (by have:=hbwl.out.size;omega))
   by_cases hlt:k<N
   ·have hlt':(k:Int)<N:=by omega
    have hkF:k<FL.length:=by have:=hNF.out;omega
    have hkL:k<LS.length:=by have:=hN.out;omega
    have hx:=List.getElem?_eq_getElem hkF;have hxR:=hsub.out _ (List.getElem_mem hkF)
    have hxl:FL[k].l=LS.getD k []:=by
     rw[←hFm.out,List.getD_eq_getElem?_getD,List.getElem?_map,hx];rfl
    obtain⟨f,ix,bls,hop,hrg,hblx,hfl⟩:=table_back (n:=5+k) (lv:=0) (hLs.out.at_ hkL);have htr:=hBk.out.tab k hkL;have hti:=tabsT_at (n:=5) (lv:=0) (ls:=LS) (k:=N) hlt;have hxn:(finJ (runX (5+k) 0 (LS.getD k []))).n=5+k:=finJ_n _;have hxs:(finJ (runX (5+k) 0 (LS.getD k []))).size=(fileT (5+k) 0 (LS.getD k [])).length:=finJ_size _;have hl60:=(hLs.out.at_ hkL).len;obtain⟨tb,htab,htb1,htc⟩:=tabs_at (i:=k) (t:=finJ (runX (5+k) 0 (LS.getD k []))) (ts:=tabsT 5 0 LS N) (c:=Tc) (A:=TA) (w:=wr) (by rw[tabsT_len];exact own_belowJ hoTl.out hbr) hti;obtain⟨fb,hfab,hfb1,hfc⟩:=rowF_at (F:=FL) (w:=wr) (A:=SA) (c:=Sc) (i:=k) (by rw[hNF.out];exact own_belowJ hoSl.out hbr) hx;have hxr:=((hlR.out.below (hbBl.out.trans (hbr.mono (by have:=hbBl.out.size;omega)))).each _ hxR).1.more (show B1≤wr.heap.size by have:=hbBl.out.size;omega)
    generalize FL[k]=x at *
    rw[hxl] at hfc hxr
    generalize LS.getD k []=l at *
    generalize fileT (5+k) 0 l=S at *
    generalize finJ (runX (5+k) 0 l)=t at *
    subst htab hfab;rw[←hxn] at htr;have hho:=fun (W:World) (hW:Below wr.heap.size wr W)=>holds_any hgs.out (by decide) (hDl.out.grow (hbr.trans (hW.mono hzr)) (Y:=fun k=>False) (fun k q=>q.elim)) (hG.out.below (hbwr.trans (hW.mono (by have:=hbwr.size;omega))) (by omega)) (h5.out.low (hbwr.trans (hW.mono (by have:=hbwr.size;omega))) (by omega)) (by have:=hbwr.size;have:=hW.size;omega) t (by omega) htr hxs hfl hop hrg hblx (A:=x.A) (cap:=x.c) (by rw[entsC_F];exact (hxr.below hW).more hW.size) (by omega);have t0:=htc 0 (by decide);have t1:=htc 1 (by decide);have t2:=htc 2 (by decide);have t3:=htc 3 (by decide);have t4:=htc 4 (by decide);have t5:=htc 5 (by decide);have t6:=htc 6 (by decide);have t7:=htc 7 (by decide);unfold tiC strV at t0 t1 t2 t3 t4 t5 t6 t7 hho;rw[Nat.add_zero] at t0;replace hho:=Lib.hid hho;replace hbwr:=Lib.hid hbwr;clear htr hop hrg hblx hfl hxs hxn htc hti hxr hxR hx hxl hl60;go_wp2_with fail
    have hxc:=@Ext.cell;refine wp_region_ext (by kernel_rfl) (by kernel_rfl) ?_
    repeat (go_big_quiet_step ((first | (go_at_call 27;exact Calls.ext (hho.out _ (Ext.below _))))))
    refine wpQuiet_nil ?_;clear hxc;intro wx hwx;obtain⟨x,hx⟩:=hwx;have hb:=x.below;rw[←hx] at hb;clear hx x;go_wp2_with fail
    exact⟨⟨k+1,by omega,by go_num,hbr.trans (hb.mono hzr)⟩,by simp[intOf];omega⟩
   ·have hlt':¬(k:Int)<N:=by omega
    have hbz:=hbwr.size;have haw:=jawake_any (hG.out.below hbwr (by omega)) (h5.out.low hbwr (by omega)) (by omega);replace haw:=Lib.hid haw;replace hbwr:=Lib.hid hbwr;go_wp2_with fail
    refine haw.out.mono ?_;rintro e wz ⟨rfl,hbz2⟩;have hfin:=Lib.hid (hbwr.out.trans (hbz2.mono hbz));clear hbz2;go_wp2_with fail
    go_ret
    exact⟨rfl,hfin.out⟩
end Go.Proofs.YtlpojfgeocpkeaaGreatDoor
