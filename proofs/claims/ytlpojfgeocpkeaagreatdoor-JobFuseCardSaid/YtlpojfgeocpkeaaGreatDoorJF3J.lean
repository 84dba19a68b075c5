/- JobFuse walked. -/
import Derived.Test.YtlpojfgeocpkeaaGreatDoorV38
import Derived.Test.YtlpojfgeocpkeaaGreatDoorNumPJ
namespace Go.Proofs.YtlpojfgeocpkeaaGreatDoor
open Go.RowKit Go.Sort
set_option linter.unusedVariables false
set_option linter.unusedSimpArgs false
set_option maxRecDepth 100000 in
set_option maxHeartbeats 8000000 in
theorem JobFuse_any {w:World}{A:Option Addr}{ls:List EL}{cap:Nat}(fuse:Int)(hf64:fuse≤9223372036854775807)(c:Cra)(KA PA:Option Addr)(kc pc:Nat)(hcr:CraR w.heap.size w c KA PA)(hck:c.keep.length≤9223372036854775807)(hcp:c.spoil.length≤9223372036854775807)(h:LsAt w w.heap.size A ls)(hL:ls.length≤9223372036854775807)(hs:∀x∈ls,x.l.length≤9223372036854775807∧∀e∈x.l,e.key.length≤9223372036854775807∧e.value.length≤9223372036854775807)(hG:Gl w)(h5:Laid5 w)(hz7:7≤w.heap.size) :
  Calls Tryz.prog 5 #[.slice A ls.length cap,.int .i64 fuse,.agg #[.int .i64 c.names,.slice KA c.keep.length kc,.slice PA c.spoil.length pc]] w fun e w'=>e=.returned (.bool true)∧Below w.heap.size w w':=by
 obtain⟨w0,hw0⟩:∃x,w=x:=⟨_,rfl⟩;have hgr:=Lib.hid (fun (W:World) (hb:Below w.heap.size w W)=>Great_any (cap:=cap) ((h.below hb).more hb.size) hL hs);obtain⟨N0,hN0⟩:∃N,ls.length=N:=⟨_,rfl⟩;rw[hN0] at hgr ⊢;clear hw0;replace h:=Lib.hid h;replace hs:=Lib.hid hs;replace hG:=Lib.hid hG;replace h5:=Lib.hid h5;replace hN0:=Lib.hid hN0;replace hcr:=Lib.hid hcr;replace hck:=Lib.hid hck;have hbc0:=Blk.new w 58 #[.int .i64 c.names,.slice KA c.keep.length kc,.slice PA c.spoil.length pc];have hb00:Below w.heap.size w (w.alloc (.cells #[.int .i64 c.names,.slice KA c.keep.length kc,.slice PA c.spoil.length pc] 58)):=(Below.refl _ _).alloc (Nat.le_refl _) _
 have hz00:(w.alloc (.cells #[.int .i64 c.names,.slice KA c.keep.length kc,.slice PA c.spoil.length pc] 58)).heap.size=w.heap.size+1:=by simp
 have hgr1:=hgr.out _ hb00;replace hgr1:=Lib.hid hgr1;replace hbc0:=Lib.hid hbc0;replace hb00:=Lib.hid hb00;replace hz00:=Lib.hid hz00;clear hgr
 go_enter Tryz.func5,Tryz.ntmps5
 go_wp2_with fail
 refine hgr1.out.mono ?_;clear hgr1;rintro e w1 ⟨rb,rfl,hrb,hb1⟩;have hbc1:=hbc0.out.below hb1 hbc0.out.lt;have hb01:=hb00.out.trans (hb1.mono hb00.out.size);have hz1:=hb01.size;have hbz1:w.heap.size<w1.heap.size:=hbc1.lt;clear hb1 hbc0 hb00 hz00
 cases rb with
 | true =>
  have haw:=jawake_any (hG.out.below hb01 (by omega)) (h5.out.tab.low hb01 (by omega)) (by omega);replace haw:=Lib.hid haw;replace hb01:=Lib.hid hb01;clear hrb;go_wp2_with fail
  refine haw.out.mono ?_;clear haw;rintro e w2 ⟨rfl,hb2⟩;have hfin:=Lib.hid (hb01.out.trans (hb2.mono hz1));replace hb2:=Lib.hid hb2;go_wp2_with fail
  go_ret
  exact⟨rfl,hfin.out⟩
 | false =>
  obtain⟨hl6,hokE,hsz⟩:=hrb rfl;have hls1:=(h.out.below hb01).more hz1;have hri:=Right_any (cap:=cap) hls1 (by rw[hN0.out];exact hl6) (fun x hx=>(hokE x hx).1) (fun x hx=>(hokE x hx).2);rw[hN0.out] at hri;have h60:∀x∈ls,x.l.length≤60:=fun x hx=>(hokE x hx).1;replace hri:=Lib.hid hri;replace hb01:=Lib.hid hb01;replace h60:=Lib.hid h60;replace hl6:=Lib.hid hl6;replace hbc1:=Lib.hid hbc1;clear hls1 hokE hrb hsz;go_wp2_with fail
  refine hri.out.mono ?_;clear hri;rintro e w2 ⟨vR,oR,rfl,hoR,homR,hb2⟩;have hz2:=hb2.size;obtain⟨hr1,hr2,hr3,hr4⟩:=right_ok homR h60.out;obtain⟨AR,cR,rfl⟩:=hoR.form;have hlR:=hoR.ls hr4;have hnew:=New_dx 1048576 w2 (X:=fun k=>k<w2.heap.size) (fun k q=>q);have hbc2:=hbc1.out.below hb2 hbc1.out.lt;obtain⟨B1,hB1⟩:∃b,w2.heap.size=b:=⟨_,rfl⟩;have hbw2:=hb01.out.trans (hb2.mono hz1);have hBz2:B1≤w2.heap.size:=Nat.le_of_eq hB1.symm;rw[hB1] at hnew hlR
  have hBw:w.heap.size<B1:=by omega
  replace hnew:=Lib.hid hnew;replace hlR:=Lib.hid hlR;replace hr1:=Lib.hid hr1;replace hr2:=Lib.hid hr2;replace hr4:=Lib.hid hr4;replace hbw2:=Lib.hid hbw2;replace hoR:=Lib.hid hoR;replace homR:=Lib.hid homR;replace hb2:=Lib.hid hb2;replace hB1:=Lib.hid hB1;replace hr3:=Lib.hid hr3;replace hbc2:=Lib.hid hbc2;replace hBz2:=Lib.hid hBz2;clear hbc1;go_wp2_with fail
  refine hnew.out.mono ?_;clear hnew;rintro e w3 ⟨d,rfl,hD3,hb3,hd3⟩;have hz3:=hb3.size
  have hz3b:B1≤w3.heap.size:=by have:=hB1.out;omega
  have hX3:∀k,(fun k=>k<B1) k→k<w3.heap.size:=fun k (q:k<B1)=>by omega
  obtain⟨e1,e2,e3,e4,hcal,hfil,⟨i0,hheld⟩,hnin⟩:=own_begin t4_right;obtain⟨g1,g2,g3,g4⟩:=own_good t4W;have hC:=Create_dx hD3 hX3 (Dsk.Good.new 1048576) (by decide) (bs t4W) (by decide);rw[bs_data,show (Dsk.new 1048576).create t4W=ownD1 t4W from rfl,e1] at hC;have hBk3:Below B1 w2 w3:=hb3;have hbo:BaseOk 5 (baseN t4W) [t4W]:=baseN_ok (by decide) (fun i hi=>nameT_t4 (by omega));replace hC:=Lib.hid hC;replace hD3:=Lib.hid hD3;replace hb3:=Lib.hid hb3;replace hBk3:=Lib.hid hBk3;replace hX3:=Lib.hid hX3;replace hcal:=Lib.hid hcal;replace hfil:=Lib.hid hfil;replace hheld:=Lib.hid hheld;replace hnin:=Lib.hid hnin;replace hbo:=Lib.hid hbo;replace e2:=Lib.hid e2;replace e3:=Lib.hid e3;replace e4:=Lib.hid e4;replace g1:=Lib.hid g1;replace g2:=Lib.hid g2;replace g3:=Lib.hid g3;replace g4:=Lib.hid g4;clear e1;go_wp2_with fail
  refine hC.out.mono ?_;clear hC;rintro e w4 ⟨rfl,hD4,hk4⟩;have hz4:=hk4.size
  have hX4:∀k,(fun k=>k<B1) k→k<w4.heap.size:=fun k (q:k<B1)=>by omega
  have hAp:=Append_dx hD4 hX4 g1.out (by decide) (bs t4W) (by decide) (bs textW) (by decide);rw[bs_data,bs_data,show (ownD1 t4W).1.append t4W textW=ownD2 t4W from rfl,e2.out] at hAp;replace hAp:=Lib.hid hAp;replace hD4:=Lib.hid hD4;replace hk4:=Lib.hid hk4;replace hX4:=Lib.hid hX4;go_wp2_with fail
  refine hAp.out.mono ?_;clear hAp;rintro e w5 ⟨rfl,hD5,hk5⟩;have hz5:=hk5.size
  have hX5:∀k,(fun k=>k<B1) k→k<w5.heap.size:=fun k (q:k<B1)=>by omega
  have hSy:=Sync_dx hD5 hX5 g2.out (by decide) (bs t4W) (by decide);rw[bs_data,show (ownD2 t4W).1.sync t4W=ownD3 t4W from rfl,e3.out] at hSy;replace hSy:=Lib.hid hSy;replace hD5:=Lib.hid hD5;replace hk5:=Lib.hid hk5;replace hX5:=Lib.hid hX5;go_wp2_with fail
  refine hSy.out.mono ?_;clear hSy;rintro e w5a ⟨rfl,hD5a,hk5a⟩;have hz5a:=hk5a.size
  have hX5a:∀k,(fun k=>k<B1) k→k<w5a.heap.size:=fun k (q:k<B1)=>by omega
  have hDs:=DirSync_dx hD5a hX5a g3.out;rw[show (ownD3 t4W).1.dirsync=ownD4 t4W from rfl,e4.out] at hDs;replace hDs:=Lib.hid hDs;replace hD5a:=Lib.hid hD5a;replace hk5a:=Lib.hid hk5a;replace hX5a:=Lib.hid hX5a;go_wp2_with fail
  refine hDs.out.mono ?_;clear hDs;rintro e w6 ⟨rfl,hD6,hk6⟩;have hz6:=hk6.size;obtain⟨s2,hs2⟩:∃x,(ownD4 t4W).1=x:=⟨_,rfl⟩;have hcal2:=hcal.out;have hfil2:=hfil.out;have hheld2:=hheld.out;have hnin2:=hnin.out;have hg2:=g4.out;rw[hs2] at hD6 hg2 hcal2 hfil2 hheld2 hnin2;have hBk6:Below B1 w2 w6:=(((hBk3.out.trans (hk4.out.below (fun k q=>q))).trans (hk5.out.below (fun k q=>q))).trans (hk5a.out.below (fun k q=>q))).trans (hk6.below (fun k q=>q));have hls6:=(hlR.out.below hBk6).more (show B1≤w6.heap.size by omega);have hbw6:=hbw2.out.trans (hBk6.mono (by omega));have hbc6:=hbc2.out.below hBk6 hBw;have hnj:=new_run 0 5 hD6 hls6 (by rw[hr3.out,hN0.out];exact hl6.out) hr1.out hr2.out (hG.out.below hbw6 (by omega)) (h5.out.tab.low hbw6 (by omega)) (by omega) (by omega) (cap:=cR);rw[hr3.out,hN0.out] at hnj ⊢;replace hnj:=Lib.hid hnj;replace hD6:=Lib.hid hD6;replace hk6:=Lib.hid hk6;replace hbw6:=Lib.hid hbw6;replace hBk6:=Lib.hid hBk6;replace hls6:=Lib.hid hls6;replace hg2:=Lib.hid hg2;replace hs2:=Lib.hid hs2;replace hcal2:=Lib.hid hcal2;replace hfil2:=Lib.hid hfil2;replace hheld2:=Lib.hid hheld2;replace hnin2:=Lib.hid hnin2;replace hbc6:=Lib.hid hbc6;clear hcal hfil hheld hnin e2 e3 e4 g1 g2 g3 g4 hX3 hX4 hX5 hX5a hbc2;go_wp2_with fail
  refine hnj.out.mono ?_;clear hnj;rintro e w7 ⟨K,vl,os,rfl,hKl,hJ,hk,hom,hb7⟩;have hz7':=hb7.size;have hbw:=hbw6.out.trans (hb7.mono (by omega));have hLs:=hk.lsok;obtain⟨LS,hLS⟩:∃x,os.map (·.l)=x:=⟨_,rfl⟩;rw[hLS] at hLs;obtain⟨g,hg⟩:∃x,w6.heap.size=x:=⟨_,rfl⟩;rw[hg] at hJ ⊢;have hJ7lt:=hJ.lt;obtain⟨N,hN⟩:∃N,LS.length=N:=⟨_,rfl⟩
  have hN6:N≤6:=by rw[←hN];exact hLs.few
  have hNf:(oR.filter fullP).length=N:=by
   have:=congrArg List.length hom;rw[List.length_map,List.length_map] at this;rw[←this,←hN,←hLS,List.length_map]
  have hB27:Below B1 w2 w7:=hBk6.out.trans (hb7.mono (by omega));have hbc7:=hbc6.out.below hb7 hbc6.out.lt;have hfu:=hJ.fuse_ fuse;replace hJ:=Lib.hid hJ;replace hk:=Lib.hid hk;replace hom:=Lib.hid hom;replace hb7:=Lib.hid hb7;replace hbw:=Lib.hid hbw;replace hLs:=Lib.hid hLs;replace hLS:=Lib.hid hLS;replace hKl:=Lib.hid hKl;replace hg:=Lib.hid hg;replace hN:=Lib.hid hN;replace hNf:=Lib.hid hNf;replace hJ7lt:=Lib.hid hJ7lt;replace hB27:=Lib.hid hB27;replace hfu:=Lib.hid hfu;replace hbc7:=Lib.hid hbc7;clear hbc6;go_wp2_with fail
  refine hfu.out.mono ?_;clear hfu;rintro e w8 ⟨rfl,hk8,hJ8⟩;have hz8:=hk8.size
  have hI0:FuI (max fuse 0).toNat 5 0 LS (baseN t4W) (JobN N) (FuQ i0 N) 0 ⟨⟨0,0,[],[]⟩,s2.setFuse fuse,false,0,false,false,false⟩ :=
   FuI.start hLs.out (hcal2.out.fused hf64) (fun k=>(hfil2.out k)) ⟨hheld2.out.setFuse _,(hnin2.out.mono (fun n e=>.inl e)).setFuse _⟩
  have hen:=jends_any hJ8 (hk.out.keeps hk8) hLS.out hLs.out hbo.out (hg2.out.setFuse hf64) (by decide) (by decide) hI0 (fu_pres i0 N hN6) (fun i hi=>⟨i,by have:=hN.out;omega,rfl⟩);replace hen:=Lib.hid hen;replace hI0:=Lib.hid hI0;replace hJ8:=Lib.hid hJ8;replace hk8:=Lib.hid hk8;go_wp2_with fail
  refine hen.out.mono ?_;clear hen;rintro e w9 ⟨r,rfl,hk9,hJr,hgr,ii,hIr,hrd⟩;have hkr:=hk8.out.trans hk9 (fun _=>id);have hbc9:=hkr.blk hbc7.out (hKl.out _ hBw)
  by_cases he:r.e=0
  ·obtain⟨wt,rfl⟩:∃x,x=w9:=⟨_,rfl⟩;obtain⟨q1,q2,q3,q4⟩:=hIr.on he;have hdo:=Down_dx hJr.dx_;rw[q4] at hdo;have hDt:=hJr.dx_;have hQt:=hIr.2.1;obtain⟨st,hst⟩:∃x,r.s=x:=⟨_,rfl⟩;rw[hst] at hDt hQt hgr;rw[he];have hgt:=Lib.hid hgr;replace hdo:=Lib.hid hdo;replace hDt:=Lib.hid hDt;replace hQt:=Lib.hid hQt;replace hst:=Lib.hid hst;have hkt:=Lib.hid hkr;replace hbc9:=Lib.hid hbc9;clear hgr hIr hrd hJr hk9 hkr q1 q2 q3 q4 hI0 hJ8 hJ;replace he:=Lib.hid he;go_wp2_with fail
   refine hdo.out.mono ?_;clear hdo;rintro e w' ⟨rfl,rfl⟩;have hct0:=hbc9.out.cell 0;have hct1:=hbc9.out.cell 1;have hct2:=hbc9.out.cell 2;have hctz:=hbc9.out.lt;have hzt:=hkt.out.size
   have hKt:∀k,K k→k<wt.heap.size:=fun k q=>by have:=hJ7lt.out k q;omega
   have hbt:=hbw.out.trans (hkt.out.below (fun k q=>hKl.out k (by omega)));have hca:=(hcr.out.below hbt (Nat.le_refl _)).at_ hbt.size hck hcp;have hcr2:=Crash_dx hDt.out hKt hgt.out (by decide) c KA PA kc pc hca (fun ad e=>hKl.out _ (by have:=hcr.out.under (Nat.le_refl _) ad e;omega));have hgc:=hgt.out.crash c;have hQc:=hQt.out.crash c;obtain⟨sc,hsc⟩:∃x,st.crash c=x:=⟨_,rfl⟩;rw[hsc] at hcr2 hgc hQc;unfold craV at hcr2;replace hcr2:=Lib.hid hcr2;replace hgc:=Lib.hid hgc;replace hQc:=Lib.hid hQc;replace hsc:=Lib.hid hsc;replace hKt:=Lib.hid hKt;replace hbt:=Lib.hid hbt;clear hca hzt;go_wp2_with fail
   refine hcr2.out.mono ?_;clear hcr2;rintro e wa ⟨rfl,hDa,hka⟩;have hkA:=hkt.out.trans hka (fun _=>id);have hza:=hka.size
   have hKa:∀k,K k→k<wa.heap.size:=fun k q=>by have:=hKt.out k q;omega
   have hsr:=Start_dx hDa hKa;have hgs:=hgc.out.start;have hQs:=hQc.out.start;have hofs:sc.start.off=false:=rfl;obtain⟨ss,hss⟩:∃x,sc.start=x:=⟨_,rfl⟩;rw[hss] at hsr hgs hQs hofs;replace hsr:=Lib.hid hsr;replace hgs:=Lib.hid hgs;replace hQs:=Lib.hid hQs;replace hss:=Lib.hid hss;replace hofs:=Lib.hid hofs;replace hkA:=Lib.hid hkA;replace hDa:=Lib.hid hDa;replace hka:=Lib.hid hka;clear hKa hza;go_wp2_with fail
   refine hsr.out.mono ?_;clear hsr;rintro e wb ⟨rfl,hDb,hkb⟩;have hkB:=hkA.out.trans hkb (fun _=>id);have hzB:=hkB.size;have hlist:=List_dx hDb hgs.out (by decide);have hnl:=hgs.out.names;have hbB:=hbw.out.trans (hkB.below (fun k q=>hKl.out k (by omega)));obtain⟨M,hM⟩:∃M,ss.names.length=M:=⟨_,rfl⟩;replace hlist:=Lib.hid hlist;replace hkB:=Lib.hid hkB;replace hkb:=Lib.hid hkb;replace hbB:=Lib.hid hbB;go_wp2_with fail
   refine hlist.out.mono ?_;clear hlist;rintro e wl ⟨lv,rfl,hrow,hbl⟩
   obtain⟨LA,Lc,hform⟩:∃A c,lv=.slice A ss.names.length c:=by
    rcases hrow.2 with⟨rfl,e⟩ | ⟨gg,cap,cur,rfl,_⟩
    ·exact⟨none,0,by rw[e]⟩
    ·exact⟨_,cap,rfl⟩
   subst hform;have hrd:=Reads.of_own hrow;have hzl:=hbl.size;have hDl:=hDb.grow hbl (Y:=fun k=>False) (fun k q=>q.elim);have hbwl:=hbB.out.trans (hbl.mono (by omega));have hbRl:Below B1 w2 wl:=(hB27.out.trans (hkB.out.below (fun k q=>hKl.out k q))).trans (hbl.mono (by omega));clear hrow;rw[hM];rw[hM] at hnl hrd;replace hrd:=Lib.hid hrd;replace hbl:=Lib.hid hbl;replace hDl:=Lib.hid hDl;replace hDb:=Lib.hid hDb;replace hbwl:=Lib.hid hbwl;replace hbRl:=Lib.hid hbRl;replace hM:=Lib.hid hM;go_wp2_with fail
   go_loopw [15,16,17] (fun iv nv ov wr=>∃k:Nat,k≤M∧iv=.int .i64 k∧Below wl.heap.size wl wr) (fun iv _ _ _=>M-(intOf iv).toNat)
   case atStart=>exact⟨0,Nat.zero_le _,rfl,Below.refl _ _⟩
   case round =>
    obtain⟨k,hk,rfl,hbr⟩:=hrel;have hzr:=hbr.size
    by_cases hlt:k<M
    ·have hlt':(k:Int)<M:=by omega
     have hkn:k<ss.names.length:=by have:=hM.out;omega
     have hp:=List.getElem?_eq_getElem hkn;have hpm:=List.getElem_mem hkn;have hpl:=(hgs.out.ok.names _ hpm).1;obtain⟨kk,hk4,hk5,hkN⟩:=fu_name hN6 (hQs.out.2.names _ hpm)
     generalize ss.names[k]=p at *
     have hrd2:=hrd.out.below hbr;obtain⟨ad,u,rfl,had,hu,hcell⟩:=hrd2.at_ (k:=k) (by omega);rw[List.getElem?_map,hp] at hu;injection hu with hu;subst hu;obtain⟨ad0,u0,e0,_,_,hc0⟩:=hrd2.at_ (k:=0) (by omega);injection e0 with e0;subst e0;obtain⟨bb,oo,rfl⟩:=at_plain hc0;rw[add_flat] at hcell
     have hbl1:bb<wr.heap.size:=by have:bb<wl.heap.size:=had;omega
     have hbwr:=hbwl.out.trans (hbr.mono (by have:=hbwl.out.size;omega));have hbRr:=hbRl.out.trans (hbr.mono (by omega));have hnm:=Number_any (bs tabW) (bs p.1) (by decide) (by rw[bs_size];omega) wr (h5.out.below hbwr (by omega)) (by omega);rw[bs_data,bs_data,hkN] at hnm;replace hnm:Calls Tryz.prog 35 #[.string ⟨#[116,97,98,108,101]⟩,.string (bs p.1)] wr fun e w'=>e=.returned (.tuple #[.int .u64 (kk:Nat),.bool true])∧Below wr.heap.size wr w':=hnm
     have hk4':¬(kk:Int)<4:=by omega
     have hk5':(kk:Int)<5+N:=by omega
     clear hc0 hrd2 hp hpm hkN;replace hnm:=Lib.hid hnm;replace hbwr:=Lib.hid hbwr;replace hbRr:=Lib.hid hbRr;go_wp2_with fail
     refine hnm.out.mono ?_;rintro e w9 ⟨rfl,hb9⟩;have hz9:=hb9.size;have hbR9:=hbRr.out.trans (hb9.mono (by omega));have hso:=some_any (cap:=cR) ((hlR.out.below hbR9).more (show B1≤w9.heap.size by have:=hbR9.size;have:=hBz2;omega)) (by rw[hr3.out,hN0.out];have:=hl6.out;omega) (fun x hx=>by have:=hr2.out x hx;omega);rw[hr3.out,hN0.out,hNf.out] at hso;replace hso:=Lib.hid hso;replace hbR9:=Lib.hid hbR9;replace hnm:=Lib.hid hnm;go_wp2_with fail
     refine hso.out.mono ?_;rintro e w10 ⟨sv,rfl,hos,hb10⟩
     obtain⟨SA,Sc,hsf⟩:∃A c,sv=.slice A N c:=by
      rcases hos.2 with⟨rfl,e⟩ | ⟨gg,cap,cur,rfl,_⟩
      ·exact⟨none,0,by rw[e]⟩
      ·exact⟨_,cap,rfl⟩
     subst hsf;have hfb:=(hbr.trans (hb9.mono (by omega))).trans (hb10.mono (by omega));clear hos;replace hfb:=Lib.hid hfb;replace hb9:=Lib.hid hb9;replace hb10:=Lib.hid hb10;go_wp2_with fail
     exact⟨⟨k+1,by omega,by go_num,hfb.out⟩,by simp[intOf];omega⟩
    ·have hlt':¬(k:Int)<M:=by omega
     have hDr:=hDl.out.grow hbr (Y:=fun k=>False) (fun k q=>q.elim);have hrdd:=hQs.out.1.read hofs.out;have hread:=Read_dx hDr hgs.out (by decide) (bs t4W) (by decide);rw[bs_data,hrdd] at hread;have hbwr:=hbwl.out.trans (hbr.mono (by have:=hbwl.out.size;omega));have hbz:=hbwr.size;have haw:=jawake_any (hG.out.below hbwr (by omega)) (h5.out.tab.low hbwr (by omega)) (by omega);replace haw:=Lib.hid haw;replace hread:=Lib.hid hread;replace hbwr:=Lib.hid hbwr;clear hrdd hDr;go_wp2_with fail
     refine hread.out.mono ?_;rintro e wz ⟨rfl,rfl⟩;have hbt:(bs textW).toList=[116,101,120,116]:=bs_toList _;go_wp2_with fail
     refine haw.out.mono ?_;rintro e wz ⟨rfl,hbz2⟩;have hfin:=Lib.hid (hbwr.out.trans (hbz2.mono hbz));clear hbz2;go_wp2_with fail
     go_ret
     exact⟨rfl,hfin.out⟩
  ·obtain⟨q0,q1,q2,q3,q4,q5⟩:=hIr.e_ he;have hdo:=Down_dx hJr.dx_;rw[q4] at hdo;rw[q0];have hjs:=hJr.start_;replace hdo:=Lib.hid hdo;replace hjs:=Lib.hid hjs;replace hIr:=Lib.hid hIr;replace hgr:=Lib.hid hgr;replace hkr:=Lib.hid hkr;replace hbc9:=Lib.hid hbc9;replace he:=Lib.hid he;replace q0:=Lib.hid q0;replace q1:=Lib.hid q1;clear hrd hk9 hI0 hJ8 hJ q2 q3 q4 q5;replace hJr:=Lib.hid hJr;go_wp2_with fail
   refine hdo.out.mono ?_;clear hdo;rintro e wd ⟨rfl,rfl⟩;go_wp2_with fail
   refine hjs.out.mono ?_;clear hjs;rintro e wa ⟨rfl,hka,hJa⟩;have hso:=Step_off hJa (.inl q1.out);have hka2:=hkr.out.trans hka (fun _=>id);replace hso:=Lib.hid hso;replace hka2:=Lib.hid hka2;clear hka;replace hJa:=Lib.hid hJa;go_wp2_with fail
   refine hso.out.mono ?_;clear hso;rintro e wb ⟨rfl,hkb,hJb⟩;have hdg:=Drop_gone hJb (.inl rfl);have hkb2:=hka2.out.trans hkb (fun _=>id);replace hdg:=Lib.hid hdg;replace hkb2:=Lib.hid hkb2;replace hJb:=Lib.hid hJb;clear hkb;go_wp2_with fail
   refine hdg.out.mono ?_;clear hdg;rintro e wt ⟨rfl,hkt0,hDt⟩;have hkt1:=hkb2.out.trans hkt0 (fun _=>id);have hQt:=hIr.out.2.1.start;have hgt:=hgr.out.start;obtain⟨st,hst⟩:∃x,r.s.start=x:=⟨_,rfl⟩;rw[hst] at hDt hQt hgt;have hbct:=hkt1.blk hbc7.out (hKl.out _ hBw);have hkt:=Lib.hid hkt1;replace hDt:=Lib.hid hDt;replace hQt:=Lib.hid hQt;replace hgt:=Lib.hid hgt;replace hst:=Lib.hid hst;clear hkt0 hkt1 hIr hgr hJa hJb hJr hkr hbc9;have hct0:=hbct.cell 0;have hct1:=hbct.cell 1;have hct2:=hbct.cell 2;have hctz:=hbct.lt;replace hbct:=Lib.hid hbct;have hzt:=hkt.out.size
   have hKt:∀k,K k→k<wt.heap.size:=fun k q=>by have:=hJ7lt.out k q;omega
   have hbt:=hbw.out.trans (hkt.out.below (fun k q=>hKl.out k (by omega)));have hca:=(hcr.out.below hbt (Nat.le_refl _)).at_ hbt.size hck hcp;have hcr2:=Crash_dx hDt.out hKt hgt.out (by decide) c KA PA kc pc hca (fun ad e=>hKl.out _ (by have:=hcr.out.under (Nat.le_refl _) ad e;omega));have hgc:=hgt.out.crash c;have hQc:=hQt.out.crash c;obtain⟨sc,hsc⟩:∃x,st.crash c=x:=⟨_,rfl⟩;rw[hsc] at hcr2 hgc hQc;unfold craV at hcr2;replace hcr2:=Lib.hid hcr2;replace hgc:=Lib.hid hgc;replace hQc:=Lib.hid hQc;replace hsc:=Lib.hid hsc;replace hKt:=Lib.hid hKt;replace hbt:=Lib.hid hbt;clear hca hzt;go_wp2_with fail
   refine hcr2.out.mono ?_;clear hcr2;rintro e wa ⟨rfl,hDa,hka⟩;have hkA:=hkt.out.trans hka (fun _=>id);have hza:=hka.size
   have hKa:∀k,K k→k<wa.heap.size:=fun k q=>by have:=hKt.out k q;omega
   have hsr:=Start_dx hDa hKa;have hgs:=hgc.out.start;have hQs:=hQc.out.start;have hofs:sc.start.off=false:=rfl;obtain⟨ss,hss⟩:∃x,sc.start=x:=⟨_,rfl⟩;rw[hss] at hsr hgs hQs hofs;replace hsr:=Lib.hid hsr;replace hgs:=Lib.hid hgs;replace hQs:=Lib.hid hQs;replace hss:=Lib.hid hss;replace hofs:=Lib.hid hofs;replace hkA:=Lib.hid hkA;replace hDa:=Lib.hid hDa;replace hka:=Lib.hid hka;clear hKa hza;go_wp2_with fail
   refine hsr.out.mono ?_;clear hsr;rintro e wb ⟨rfl,hDb,hkb⟩;have hkB:=hkA.out.trans hkb (fun _=>id);have hzB:=hkB.size;have hlist:=List_dx hDb hgs.out (by decide);have hnl:=hgs.out.names;have hbB:=hbw.out.trans (hkB.below (fun k q=>hKl.out k (by omega)));obtain⟨M,hM⟩:∃M,ss.names.length=M:=⟨_,rfl⟩;replace hlist:=Lib.hid hlist;replace hkB:=Lib.hid hkB;replace hkb:=Lib.hid hkb;replace hbB:=Lib.hid hbB;go_wp2_with fail
   refine hlist.out.mono ?_;clear hlist;rintro e wl ⟨lv,rfl,hrow,hbl⟩
   obtain⟨LA,Lc,hform⟩:∃A c,lv=.slice A ss.names.length c:=by
    rcases hrow.2 with⟨rfl,e⟩ | ⟨gg,cap,cur,rfl,_⟩
    ·exact⟨none,0,by rw[e]⟩
    ·exact⟨_,cap,rfl⟩
   subst hform;have hrd:=Reads.of_own hrow;have hzl:=hbl.size;have hDl:=hDb.grow hbl (Y:=fun k=>False) (fun k q=>q.elim);have hbwl:=hbB.out.trans (hbl.mono (by omega));have hbRl:Below B1 w2 wl:=(hB27.out.trans (hkB.out.below (fun k q=>hKl.out k q))).trans (hbl.mono (by omega));clear hrow;rw[hM];rw[hM] at hnl hrd;replace hrd:=Lib.hid hrd;replace hbl:=Lib.hid hbl;replace hDl:=Lib.hid hDl;replace hDb:=Lib.hid hDb;replace hbwl:=Lib.hid hbwl;replace hbRl:=Lib.hid hbRl;replace hM:=Lib.hid hM;go_wp2_with fail
   go_loopw [15,16,17] (fun iv nv ov wr=>∃k:Nat,k≤M∧iv=.int .i64 k∧Below wl.heap.size wl wr) (fun iv _ _ _=>M-(intOf iv).toNat)
   case atStart=>exact⟨0,Nat.zero_le _,rfl,Below.refl _ _⟩
   case round =>
    obtain⟨k,hk,rfl,hbr⟩:=hrel;have hzr:=hbr.size
    by_cases hlt:k<M
    ·have hlt':(k:Int)<M:=by omega
     have hkn:k<ss.names.length:=by have:=hM.out;omega
     have hp:=List.getElem?_eq_getElem hkn;have hpm:=List.getElem_mem hkn;have hpl:=(hgs.out.ok.names _ hpm).1;obtain⟨kk,hk4,hk5,hkN⟩:=fu_name hN6 (hQs.out.2.names _ hpm)
     generalize ss.names[k]=p at *
     have hrd2:=hrd.out.below hbr;obtain⟨ad,u,rfl,had,hu,hcell⟩:=hrd2.at_ (k:=k) (by omega);rw[List.getElem?_map,hp] at hu;injection hu with hu;subst hu;obtain⟨ad0,u0,e0,_,_,hc0⟩:=hrd2.at_ (k:=0) (by omega);injection e0 with e0;subst e0;obtain⟨bb,oo,rfl⟩:=at_plain hc0;rw[add_flat] at hcell
     have hbl1:bb<wr.heap.size:=by have:bb<wl.heap.size:=had;omega
     have hbwr:=hbwl.out.trans (hbr.mono (by have:=hbwl.out.size;omega));have hbRr:=hbRl.out.trans (hbr.mono (by omega));have hnm:=Number_any (bs tabW) (bs p.1) (by decide) (by rw[bs_size];omega) wr (h5.out.below hbwr (by omega)) (by omega);rw[bs_data,bs_data,hkN] at hnm;replace hnm:Calls Tryz.prog 35 #[.string ⟨#[116,97,98,108,101]⟩,.string (bs p.1)] wr fun e w'=>e=.returned (.tuple #[.int .u64 (kk:Nat),.bool true])∧Below wr.heap.size wr w':=hnm
     have hk4':¬(kk:Int)<4:=by omega
     have hk5':(kk:Int)<5+N:=by omega
     clear hc0 hrd2 hp hpm hkN;replace hnm:=Lib.hid hnm;replace hbwr:=Lib.hid hbwr;replace hbRr:=Lib.hid hbRr;go_wp2_with fail
     refine hnm.out.mono ?_;rintro e w9 ⟨rfl,hb9⟩;have hz9:=hb9.size;have hbR9:=hbRr.out.trans (hb9.mono (by omega));have hso:=some_any (cap:=cR) ((hlR.out.below hbR9).more (show B1≤w9.heap.size by have:=hbR9.size;have:=hBz2;omega)) (by rw[hr3.out,hN0.out];have:=hl6.out;omega) (fun x hx=>by have:=hr2.out x hx;omega);rw[hr3.out,hN0.out,hNf.out] at hso;replace hso:=Lib.hid hso;replace hbR9:=Lib.hid hbR9;replace hnm:=Lib.hid hnm;go_wp2_with fail
     refine hso.out.mono ?_;rintro e w10 ⟨sv,rfl,hos,hb10⟩
     obtain⟨SA,Sc,hsf⟩:∃A c,sv=.slice A N c:=by
      rcases hos.2 with⟨rfl,e⟩ | ⟨gg,cap,cur,rfl,_⟩
      ·exact⟨none,0,by rw[e]⟩
      ·exact⟨_,cap,rfl⟩
     subst hsf;have hfb:=(hbr.trans (hb9.mono (by omega))).trans (hb10.mono (by omega));clear hos;replace hfb:=Lib.hid hfb;replace hb9:=Lib.hid hb9;replace hb10:=Lib.hid hb10;go_wp2_with fail
     exact⟨⟨k+1,by omega,by go_num,hfb.out⟩,by simp[intOf];omega⟩
    ·have hlt':¬(k:Int)<M:=by omega
     have hDr:=hDl.out.grow hbr (Y:=fun k=>False) (fun k q=>q.elim);have hrdd:=hQs.out.1.read hofs.out;have hread:=Read_dx hDr hgs.out (by decide) (bs t4W) (by decide);rw[bs_data,hrdd] at hread;have hbwr:=hbwl.out.trans (hbr.mono (by have:=hbwl.out.size;omega));have hbz:=hbwr.size;have haw:=jawake_any (hG.out.below hbwr (by omega)) (h5.out.tab.low hbwr (by omega)) (by omega);replace haw:=Lib.hid haw;replace hread:=Lib.hid hread;replace hbwr:=Lib.hid hbwr;clear hrdd hDr;go_wp2_with fail
     refine hread.out.mono ?_;rintro e wz ⟨rfl,rfl⟩;have hbt:(bs textW).toList=[116,101,120,116]:=bs_toList _;go_wp2_with fail
     refine haw.out.mono ?_;rintro e wz ⟨rfl,hbz2⟩;have hfin:=Lib.hid (hbwr.out.trans (hbz2.mono hbz));clear hbz2;go_wp2_with fail
     go_ret
     exact⟨rfl,hfin.out⟩
end Go.Proofs.YtlpojfgeocpkeaaGreatDoor
