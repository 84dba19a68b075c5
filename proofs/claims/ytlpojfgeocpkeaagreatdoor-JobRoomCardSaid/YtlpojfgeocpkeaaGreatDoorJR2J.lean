/- JobRoom walked. -/
import Derived.Test.YtlpojfgeocpkeaaGreatDoorV36
namespace Go.Proofs.YtlpojfgeocpkeaaGreatDoor
open Go.RowKit Go.Sort
set_option linter.unusedVariables false
set_option linter.unusedSimpArgs false
set_option maxRecDepth 100000 in
set_option maxHeartbeats 8000000 in
theorem JobRoom_any {w:World}{A:Option Addr}{ls:List EL}{cap:Nat}(room steps:Int)(h:LsAt w w.heap.size A ls)(hL:ls.length≤9223372036854775807)(hs:∀x∈ls,x.l.length≤9223372036854775807∧∀e∈x.l,e.key.length≤9223372036854775807∧e.value.length≤9223372036854775807)(hG:Gl w)(h5:Tab w)(hz7:7≤w.heap.size) :
  Calls Tryz.prog 3 #[.slice A ls.length cap,.int .i64 room,.int .i64 steps] w fun e w'=>e=.returned (.bool true)∧Below w.heap.size w w':=by
 have hgr:=Lib.hid (Great_any (cap:=cap) h hL hs);obtain⟨N,hN⟩:∃N,ls.length=N:=⟨_,rfl⟩;rw[hN] at hgr ⊢;replace h:=Lib.hid h;replace hs:=Lib.hid hs;replace hG:=Lib.hid hG;replace h5:=Lib.hid h5;replace hN:=Lib.hid hN
 go_enter Tryz.func3,Tryz.ntmps3
 go_wp2_with fail
 refine hgr.out.mono ?_;clear hgr;rintro e w1 ⟨rb,rfl,hrb,hb1⟩;have hz1:=hb1.size
 cases rb with
 | true =>
  have haw:=jawake_any (hG.out.below hb1 (by omega)) (h5.out.low hb1 (by omega)) (by omega);replace haw:=Lib.hid haw;replace hb1:=Lib.hid hb1;clear hrb;go_wp2_with fail
  refine haw.out.mono ?_;clear haw;rintro e w2 ⟨rfl,hb2⟩;have hfin:=Lib.hid (hb1.out.trans (hb2.mono hz1));replace hb2:=Lib.hid hb2;go_wp2_with fail
  go_ret
  exact⟨rfl,hfin.out⟩
 | false =>
  obtain⟨hl6,hokE,hsz⟩:=hrb rfl;have hls1:=(h.out.below hb1).more hz1;have hri:=Right_any (cap:=cap) hls1 (by rw[hN.out];exact hl6) (fun x hx=>(hokE x hx).1) (fun x hx=>(hokE x hx).2);rw[hN.out] at hri;have h60:∀x∈ls,x.l.length≤60:=fun x hx=>(hokE x hx).1;replace hri:=Lib.hid hri;replace hb1:=Lib.hid hb1;replace h60:=Lib.hid h60;replace hl6:=Lib.hid hl6;clear hls1 hokE hrb hsz;go_wp2_with fail
  refine hri.out.mono ?_;clear hri;rintro e w2 ⟨vR,oR,rfl,hoR,homR,hb2⟩;have hz2:=hb2.size;obtain⟨hr1,hr2,hr3,hr4⟩:=right_ok homR h60.out;obtain⟨AR,cR,rfl⟩:=hoR.form;have hlR:=hoR.ls hr4;have hnew:=New_dx room w2 (X:=fun k=>k<w2.heap.size) (fun k q=>q);obtain⟨B1,hB1⟩:∃b,w2.heap.size=b:=⟨_,rfl⟩;have hbw2:=hb1.out.trans (hb2.mono hz1);rw[hB1] at hnew hlR
  have hBw:w.heap.size≤B1:=by omega
  replace hnew:=Lib.hid hnew;replace hlR:=Lib.hid hlR;replace hr1:=Lib.hid hr1;replace hr2:=Lib.hid hr2;replace hr4:=Lib.hid hr4;replace hbw2:=Lib.hid hbw2;replace hoR:=Lib.hid hoR;replace homR:=Lib.hid homR;replace hb2:=Lib.hid hb2;replace hB1:=Lib.hid hB1;replace hr3:=Lib.hid hr3;go_wp2_with fail
  refine hnew.out.mono ?_;clear hnew;rintro e w3 ⟨d,rfl,hD3,hb3,hd3⟩;have hz3:=hb3.size
  have hz3b:B1≤w3.heap.size:=by have:=hB1.out;omega
  have hX3:∀k,(fun k=>k<B1) k→k<w3.heap.size:=fun k (q:k<B1)=>by omega
  obtain⟨hcre,d0,hd0,hcal,hfil⟩:=room_begin room;have hC:=Create_dx hD3 hX3 (Dsk.Good.new room) (by decide) (bs otherW) (by decide);rw[bs_data,hcre] at hC;have hg1:=(Dsk.Good.new room).create otherW;have hBk3:Below B1 w2 w3:=hb3;replace hC:=Lib.hid hC;replace hD3:=Lib.hid hD3;replace hb3:=Lib.hid hb3;replace hBk3:=Lib.hid hBk3;replace hX3:=Lib.hid hX3;replace hcal:=Lib.hid hcal;replace hfil:=Lib.hid hfil;replace hcre:=Lib.hid hcre;go_wp2_with fail
  refine hC.out.mono ?_;clear hC;rintro e w4 ⟨rfl,hD4,hk4⟩;have hz4:=hk4.size
  have hX4:∀k,(fun k=>k<B1) k→k<w4.heap.size:=fun k (q:k<B1)=>by omega
  have hAp:=Append_dx hD4 hX4 hg1 (by decide) (bs otherW) (by decide) (bs textW) (by decide);rw[bs_data,bs_data] at hAp;have hg2:=hg1.append otherW textW;replace hAp:=Lib.hid hAp;replace hD4:=Lib.hid hD4;replace hk4:=Lib.hid hk4;replace hX4:=Lib.hid hX4;go_wp2_with fail
  refine hAp.out.mono ?_;clear hAp;rintro e w5 ⟨rfl,hD5,hk5⟩;obtain⟨s2,hs2⟩:∃x,(((Dsk.new room).create otherW).1.append otherW textW).1=x:=⟨_,rfl⟩;have hcal2:=hcal.out;have hfil2:=hfil.out;rw[hs2] at hD5 hg2 hcal2 hfil2;have hz5:=hk5.size;have hus:=Used_dx hD5 hg2 (by decide);replace hus:=Lib.hid hus;replace hD5:=Lib.hid hD5;replace hk5:=Lib.hid hk5;replace hg2:=Lib.hid hg2;replace hs2:=Lib.hid hs2;replace hcal2:=Lib.hid hcal2;replace hfil2:=Lib.hid hfil2;clear hcal hfil hg1;go_wp2_with fail
  refine hus.out.mono ?_;clear hus;rintro e w6 ⟨rfl,hb6⟩;have hz6:=hb6.size;have hD6:=hD5.out.grow hb6 (Y:=fun k=>k<B1) (fun k q=>.inl q);have hBk6:Below B1 w2 w6:=((hBk3.out.trans (hk4.out.below (fun k q=>q))).trans (hk5.out.below (fun k q=>q))).trans (hb6.mono (by omega));have hls6:=(hlR.out.below hBk6).more (show B1≤w6.heap.size by omega);have hbw6:=hbw2.out.trans (hBk6.mono hBw);have hnj:=new_run 2 5 hD6 hls6 (by rw[hr3.out,hN.out];exact hl6.out) hr1.out hr2.out (hG.out.below hbw6 (by omega)) (h5.out.low hbw6 (by omega)) (by omega) (by omega) (cap:=cR);rw[hr3.out,hN.out] at hnj ⊢;replace hnj:=Lib.hid hnj;replace hD6:=Lib.hid hD6;replace hb6:=Lib.hid hb6;replace hbw6:=Lib.hid hbw6;replace hBk6:=Lib.hid hBk6;replace hls6:=Lib.hid hls6;go_wp2_with fail
  refine hnj.out.mono ?_;clear hnj;rintro e w7 ⟨K,vl,os,rfl,hKl,hJ,hk,hom,hb7⟩;have hz7':=hb7.size;have hbw:=hbw6.out.trans (hb7.mono (by omega));have hLs:=hk.lsok;obtain⟨LS,hLS⟩:∃x,os.map (·.l)=x:=⟨_,rfl⟩;rw[hLS] at hLs;obtain⟨R,hR⟩:∃x,(min (max room 0) 1048576).toNat=x:=⟨_,rfl⟩;have hcal3:=hcal2.out;rw[hR] at hcal3;have hbo:=baseO_ok (n:=5) (by decide) (d:=d0) (by omega) 0;have hst0:=RmI.start (n:=5) (lv:=2) hLs hcal3 hfil2.out;obtain⟨g,hg⟩:∃x,w6.heap.size=x:=⟨_,rfl⟩;rw[hg] at hJ ⊢;obtain⟨U,hU⟩:∃x,s2.used=x:=⟨_,rfl⟩;rw[hU];replace hJ:=Lib.hid hJ;replace hk:=Lib.hid hk;replace hom:=Lib.hid hom;replace hb7:=Lib.hid hb7;replace hbw:=Lib.hid hbw;replace hLs:=Lib.hid hLs;replace hLS:=Lib.hid hLS;replace hR:=Lib.hid hR;replace hcal3:=Lib.hid hcal3;replace hbo:=Lib.hid hbo;replace hst0:=Lib.hid hst0;replace hKl:=Lib.hid hKl;replace hg:=Lib.hid hg;replace hU:=Lib.hid hU;go_wp2_with fail
  go_loopw [11,12,13,49] (fun ev dv iv _ wr=>∃(i:Nat) (r:SR),i≤46∧iv=.int .i64 (i:Nat)∧ev=.int .i64 (r.e:Nat)∧dv=.bool r.done∧JRun K wr g d r.s 5 2 vl os r.J r.done r.over r.dead (r.e=0)∧r.s.Good (2+40*i)∧Keeps K w7 wr∧RmI R 5 2 LS (baseO d0 0) i r) (fun _ _ iv _ _=>60-(intOf iv).toNat)
  case atStart=>exact⟨0,⟨⟨0,0,[],[]⟩,s2,false,0,false,false,false⟩,by decide,rfl,rfl,rfl,hJ.out.weak (fun _=>trivial),hg2.out,.refl _ _,hst0.out⟩
  case round =>
   obtain⟨i,r,hi,rfl,rfl,rfl,hJr,hgr,hkr,hI⟩:=hrel;have hzr:=hkr.size
   have h60i:(i:Int)<60:=by omega
   by_cases he:r.e=0
   ·rw[he];have hdd:r.dead=false:=hI.dead;obtain⟨hov,hf6,hf40,hdl,hdc,hdf,hoff⟩:=hI.drop hLs.out hbo.out he;rw[hov,hdd] at hJr
    by_cases hd:r.done=false
    ·rw[hd] at hJr ⊢;have hi45:=hI.small hLs.out he hd
     by_cases hst':(i:Int)<steps
     ·have hJok:JOk LS r.J:=by
       rcases hI with q | q
       ·exact q.2.2.2.1
       ·have:=q.e;omega
      have hst:=Step_on (hJr.weak (fun _=>he)) (hk.out.keeps hkr) hLS.out hJok hLs.out hoff hgr (by omega) (by decide);have hgn:=stepR_good (n:=5) (lv:=2) hLs.out (by have:=hLs.out.few;omega) hJok hgr;obtain⟨hIn,hrt⟩:=hI.next hLs.out hbo.out he;obtain⟨r2,hr2⟩:∃x,stepR 5 2 LS r.J r.s=x:=⟨_,rfl⟩;rw[hr2] at hst hgn hIn hrt;rw[hrt] at hst;replace hst:=Lib.hid hst;replace hgn:=Lib.hid hgn;replace hIn:=Lib.hid hIn;replace hrt:=Lib.hid hrt;replace hr2:=Lib.hid hr2;replace hI:=Lib.hid hI;replace hJr:=Lib.hid hJr;replace hgr:=Lib.hid hgr;replace hkr:=Lib.hid hkr;replace hJok:=Lib.hid hJok;replace hdc:=Lib.hid hdc;replace hdf:=Lib.hid hdf;replace hdl:=Lib.hid hdl;replace hf40:=Lib.hid hf40;replace hov:=Lib.hid hov;replace hdd:=Lib.hid hdd;replace hd:=Lib.hid hd;replace he:=Lib.hid he;replace hoff:=Lib.hid hoff;go_wp2_with fail
      refine hst.out.mono ?_;clear hst;rintro e w8 ⟨rfl,hk8,hJ8⟩
      have hJ9:=hJ8.weak (ok':=r2.e=0) (fun e=>by
       rcases hIn.out with q | q
       ·exact⟨q.2.2.1,q.2.1⟩
       ·have:=q.e;omega)
      have hkr8:=hkr.out.trans hk8 (fun _=>id);replace hJ9:=Lib.hid hJ9;replace hkr8:=Lib.hid hkr8;replace hJ8:=Lib.hid hJ8;replace hk8:=Lib.hid hk8;go_wp2_with fail
      exact⟨⟨i+1,r2,by omega,by go_num,rfl,rfl,hJ9.out,hgn.out.more (by omega),hkr8.out,hIn.out⟩,by simp[intOf];omega⟩
     ·have hs60:¬(60:Int)≤steps:=by omega
      have hgr2:=delsE_good r.J.fs hgr;have hdr:=Drop_run (ls:=LS) hJr hf6 hf40 hgr (by omega) hoff;rw[hdl] at hdr;simp only[Bool.false_eq_true,if_false] at hdr;obtain⟨st,hst⟩:∃x,(delsE r.J.fs r.s).1=x:=⟨_,rfl⟩;rw[hst] at hdr hdc hdf hgr2;have hgt:=hgr2.more (show 2+40*i+r.J.fs.length≤4000 by omega)
      have hue:st.used=U:=by rw[←hU.out];exact Dsk.used_eq hcal2.out.uq hcal2.out.ok hdc.uq hdc.ok (fun k=>by rw[hdf,hfil2.out])
      replace hdr:=Lib.hid hdr;replace hgr2:=Lib.hid hgr2;replace hgt:=Lib.hid hgt;replace hue:=Lib.hid hue;replace hst:=Lib.hid hst;replace hI:=Lib.hid hI;replace hJr:=Lib.hid hJr;replace hgr:=Lib.hid hgr;replace hkr:=Lib.hid hkr;replace hdc:=Lib.hid hdc;replace hdf:=Lib.hid hdf;replace hdl:=Lib.hid hdl;replace hf40:=Lib.hid hf40;replace hov:=Lib.hid hov;replace hdd:=Lib.hid hdd;replace hd:=Lib.hid hd;replace he:=Lib.hid he;replace hoff:=Lib.hid hoff;go_wp2_with fail
      refine hdr.out.mono ?_;clear hdr;rintro e wt ⟨rfl,hk8,hJt⟩;have hkt:=hkr.out.trans hk8 (fun _=>id);have hct:=hdc.out;have hft:=hdf.out;obtain⟨Jt,hJt2⟩:∃x:JW,(⟨r.J.li,r.J.en,[],[]⟩:JW)=x:=⟨_,rfl⟩
      have hfs0:Jt.fs=[]:=by rw[←hJt2]
      have hts0:Jt.ts=[]:=by rw[←hJt2]
      rw[hJt2] at hJt;have hrm:=Room_dx hJt.dx_;rw[hct.room] at hrm;replace hrm:=Lib.hid hrm;replace hJt2:=Lib.hid hJt2;replace hfs0:=Lib.hid hfs0;replace hts0:=Lib.hid hts0;replace hk8:=Lib.hid hk8;replace hJt:=Lib.hid hJt;replace hkt:=Lib.hid hkt;replace hct:=Lib.hid hct;replace hft:=Lib.hid hft;go_wp2_with fail
      refine hrm.out.mono ?_;clear hrm;rintro e w' ⟨rfl,rfl⟩
      by_cases hRm:R=1048576
      ·have hRm1:((R:Int)==1048576)=true:=by rw[hRm];rfl
       have hJt:=hJt.out;have hkt:=hkt.out;have hct:=hct.out;have hft:=hft.out;have hso:=Step_over hJt hct.off;replace hJt:=Lib.hid hJt;replace hkt:=Lib.hid hkt;replace hct:=Lib.hid hct;replace hft:=Lib.hid hft;replace hso:=Lib.hid hso;go_wp2_with fail
       refine hso.out.mono ?_;clear hso;rintro e wu ⟨rfl,hku,hJu⟩;have hkW:=hkt.out.trans hku (fun _=>id);have hDu:=hJu.dx_;have hli:=List_dx hDu hgt.out (by omega);have hnm:=names_other hct.out hft.out
       have hnm1:st.names.length=1:=by have:=congrArg List.length hnm;simpa using this
       rw[hnm1] at hli;replace hli:=Lib.hid hli;replace hJu:=Lib.hid hJu;replace hku:=Lib.hid hku;replace hkW:=Lib.hid hkW;replace hDu:=Lib.hid hDu;replace hnm:=Lib.hid hnm;replace hnm1:=Lib.hid hnm1;go_wp2_with fail
       refine hli.out.mono ?_;clear hli;rintro e wv ⟨vL,rfl,hoL,hbv⟩
       have hrw:st.names.map (fun p=>Value.string (bs p.1))=[.string (bs otherW)]:=by
        have:=congrArg (List.map fun x=>Value.string (bs x)) hnm.out;rw[List.map_map] at this;exact this
       rw[hrw] at hoL
       obtain⟨gL,cL,rfl,hcl0,hgl0⟩:∃g c,vL=.slice (some ⟨g,0,none⟩) 1 c∧wv.cell? ⟨g,0,none⟩=some (.string (bs otherW))∧g<wv.heap.size:=by
        rcases hoL.2 with⟨rfl,e⟩ | ⟨gg,cap,cur,rfl,_,hgg,hn1,_,hcs,htk⟩
        ·omega
        ·refine⟨gg,cap,rfl,?_,Blk.lt hgg⟩;rw[Blk.cell hgg]
         have h1:(cur.toList.take (1*1))[0]? = some (.string (bs otherW)):=by rw[htk];rfl
         rw[List.getElem?_take,if_pos (by omega),Array.getElem?_toList] at h1;exact h1
       have hzv:=hbv.size;have hJv:=hJu.out.below hbv;have hDv:=hJv.1.dx_;have hus:=Used_dx hDv hgt.out (by omega);rw[hue.out] at hus;have hbot:(bs otherW).toList=otherW:=bs_toList _;replace hus:=Lib.hid hus;replace hoL:=Lib.hid hoL;replace hbv:=Lib.hid hbv;replace hJv:=Lib.hid hJv;replace hDv:=Lib.hid hDv;replace hrw:=Lib.hid hrw;have hbo:(bs otherW)=⟨#[111,116,104,101,114]⟩:=rfl;rw[hbo] at hcl0;clear hbot hbo;go_wp2_with fail
       refine hus.out.mono ?_;clear hus;rintro e wx1 ⟨rfl,hbx⟩;have hJx:=hJv.out.1.below hbx;have hfl:=Files_any hJx.1 (by rw[hfs0.out];decide);have hzx:=hbx.size;rw[show Jt.fs.length=0 by rw[hfs0.out];rfl] at hfl;replace hfl:=Lib.hid hfl;replace hJx:=Lib.hid hJx;replace hbx:=Lib.hid hbx;go_wp2_with fail
       refine hfl.out.mono ?_;clear hfl;rintro e wx2 ⟨AF,cF,rfl,hoF,hby⟩;have hJy:=hJx.out.1.below hby;have htb:=Tables_any hJy.1 (by rw[hts0.out];decide);have hzy:=hby.size;rw[show Jt.ts.length=0 by rw[hts0.out];rfl] at htb;replace htb:=Lib.hid htb;replace hJy:=Lib.hid hJy;replace hby:=Lib.hid hby;replace hoF:=Lib.hid hoF;go_wp2_with fail
       refine htb.out.mono ?_;clear htb;rintro e wx3 ⟨AT,cT,rfl,hoT,hbz⟩;have hzz:=hbz.size;have hkend:=((((hkW.out.trans hJv.out.2 (fun _=>id)).trans hJx.out.2 (fun _=>id)).trans hJy.out.2 (fun _=>id)).trans (Keeps.of_below hbz hJy.out.1.lt) (fun _=>id));have hbend:=hbw.out.trans (hkend.below (fun k q=>hKl.out k (by omega)));have hze:=hbend.size;have haw:=jawake_any (hG.out.below hbend (by omega)) (h5.out.low hbend (by omega)) (by omega);replace haw:=Lib.hid haw;replace hoT:=Lib.hid hoT;replace hbz:=Lib.hid hbz;replace hkend:=Lib.hid hkend;replace hbend:=Lib.hid hbend;go_wp2_with fail
       refine haw.out.mono ?_;clear haw;rintro e wx4 ⟨rfl,hbq⟩;have hfin:=Lib.hid (hbend.out.trans (hbq.mono hze));replace hbq:=Lib.hid hbq;go_wp2_with fail
       go_ret
       exact⟨rfl,hfin.out⟩
      ·have hRm1:((R:Int)==1048576)=false:=by simp;omega
       have hJt:=hJt.out;have hkt:=hkt.out;have hct:=hct.out;have hft:=hft.out;have hso:=Step_over hJt hct.off;replace hJt:=Lib.hid hJt;replace hkt:=Lib.hid hkt;replace hct:=Lib.hid hct;replace hft:=Lib.hid hft;replace hso:=Lib.hid hso;go_wp2_with fail
       refine hso.out.mono ?_;clear hso;rintro e wu ⟨rfl,hku,hJu⟩;have hkW:=hkt.out.trans hku (fun _=>id);have hDu:=hJu.dx_;have hli:=List_dx hDu hgt.out (by omega);have hnm:=names_other hct.out hft.out
       have hnm1:st.names.length=1:=by have:=congrArg List.length hnm;simpa using this
       rw[hnm1] at hli;replace hli:=Lib.hid hli;replace hJu:=Lib.hid hJu;replace hku:=Lib.hid hku;replace hkW:=Lib.hid hkW;replace hDu:=Lib.hid hDu;replace hnm:=Lib.hid hnm;replace hnm1:=Lib.hid hnm1;go_wp2_with fail
       refine hli.out.mono ?_;clear hli;rintro e wv ⟨vL,rfl,hoL,hbv⟩
       have hrw:st.names.map (fun p=>Value.string (bs p.1))=[.string (bs otherW)]:=by
        have:=congrArg (List.map fun x=>Value.string (bs x)) hnm.out;rw[List.map_map] at this;exact this
       rw[hrw] at hoL
       obtain⟨gL,cL,rfl,hcl0,hgl0⟩:∃g c,vL=.slice (some ⟨g,0,none⟩) 1 c∧wv.cell? ⟨g,0,none⟩=some (.string (bs otherW))∧g<wv.heap.size:=by
        rcases hoL.2 with⟨rfl,e⟩ | ⟨gg,cap,cur,rfl,_,hgg,hn1,_,hcs,htk⟩
        ·omega
        ·refine⟨gg,cap,rfl,?_,Blk.lt hgg⟩;rw[Blk.cell hgg]
         have h1:(cur.toList.take (1*1))[0]? = some (.string (bs otherW)):=by rw[htk];rfl
         rw[List.getElem?_take,if_pos (by omega),Array.getElem?_toList] at h1;exact h1
       have hzv:=hbv.size;have hJv:=hJu.out.below hbv;have hDv:=hJv.1.dx_;have hus:=Used_dx hDv hgt.out (by omega);rw[hue.out] at hus;have hbot:(bs otherW).toList=otherW:=bs_toList _;replace hus:=Lib.hid hus;replace hoL:=Lib.hid hoL;replace hbv:=Lib.hid hbv;replace hJv:=Lib.hid hJv;replace hDv:=Lib.hid hDv;replace hrw:=Lib.hid hrw;have hbo:(bs otherW)=⟨#[111,116,104,101,114]⟩:=rfl;rw[hbo] at hcl0;clear hbot hbo;go_wp2_with fail
       refine hus.out.mono ?_;clear hus;rintro e wx1 ⟨rfl,hbx⟩;have hJx:=hJv.out.1.below hbx;have hfl:=Files_any hJx.1 (by rw[hfs0.out];decide);have hzx:=hbx.size;rw[show Jt.fs.length=0 by rw[hfs0.out];rfl] at hfl;replace hfl:=Lib.hid hfl;replace hJx:=Lib.hid hJx;replace hbx:=Lib.hid hbx;go_wp2_with fail
       refine hfl.out.mono ?_;clear hfl;rintro e wx2 ⟨AF,cF,rfl,hoF,hby⟩;have hJy:=hJx.out.1.below hby;have htb:=Tables_any hJy.1 (by rw[hts0.out];decide);have hzy:=hby.size;rw[show Jt.ts.length=0 by rw[hts0.out];rfl] at htb;replace htb:=Lib.hid htb;replace hJy:=Lib.hid hJy;replace hby:=Lib.hid hby;replace hoF:=Lib.hid hoF;go_wp2_with fail
       refine htb.out.mono ?_;clear htb;rintro e wx3 ⟨AT,cT,rfl,hoT,hbz⟩;have hzz:=hbz.size;have hkend:=((((hkW.out.trans hJv.out.2 (fun _=>id)).trans hJx.out.2 (fun _=>id)).trans hJy.out.2 (fun _=>id)).trans (Keeps.of_below hbz hJy.out.1.lt) (fun _=>id));have hbend:=hbw.out.trans (hkend.below (fun k q=>hKl.out k (by omega)));have hze:=hbend.size;have haw:=jawake_any (hG.out.below hbend (by omega)) (h5.out.low hbend (by omega)) (by omega);replace haw:=Lib.hid haw;replace hoT:=Lib.hid hoT;replace hbz:=Lib.hid hbz;replace hkend:=Lib.hid hkend;replace hbend:=Lib.hid hbend;go_wp2_with fail
       refine haw.out.mono ?_;clear haw;rintro e wx4 ⟨rfl,hbq⟩;have hfin:=Lib.hid (hbend.out.trans (hbq.mono hze));replace hbq:=Lib.hid hbq;go_wp2_with fail
       go_ret
       exact⟨rfl,hfin.out⟩
    ·replace hd:r.done=true:=by simpa using hd
     rw[hd] at hJr ⊢;have hgr2:=delsE_good r.J.fs hgr;have hdr:=Drop_run (ls:=LS) hJr hf6 hf40 hgr (by omega) hoff;have hub:=hI.used hLs.out hbo.out he hcal2.out.uq hcal2.out.ok hfil2.out;have hus:=Used_dx hJr.dx_ hgr (by omega)
     have hub':¬((r.s.used:Nat):Int)<U:=by have:=hU.out;omega
     rw[hdl] at hdr;simp only[Bool.false_eq_true,if_false] at hdr;obtain⟨st,hst⟩:∃x,(delsE r.J.fs r.s).1=x:=⟨_,rfl⟩;rw[hst] at hdr hdc hdf hgr2;have hgt:=hgr2.more (show 2+40*i+r.J.fs.length≤4000 by omega)
     have hue:st.used=U:=by rw[←hU.out];exact Dsk.used_eq hcal2.out.uq hcal2.out.ok hdc.uq hdc.ok (fun k=>by rw[hdf,hfil2.out])
     clear hdr;replace hus:=Lib.hid hus;replace hub:=Lib.hid hub;replace hgr2:=Lib.hid hgr2;replace hgt:=Lib.hid hgt;replace hue:=Lib.hid hue;replace hst:=Lib.hid hst;replace hI:=Lib.hid hI;replace hJr:=Lib.hid hJr;replace hgr:=Lib.hid hgr;replace hkr:=Lib.hid hkr;replace hdc:=Lib.hid hdc;replace hdf:=Lib.hid hdf;replace hdl:=Lib.hid hdl;replace hf40:=Lib.hid hf40;replace hov:=Lib.hid hov;replace hdd:=Lib.hid hdd;replace hd:=Lib.hid hd;replace he:=Lib.hid he;replace hoff:=Lib.hid hoff;go_wp2_with fail
     refine hus.out.mono ?_;clear hus;rintro e wy ⟨rfl,hby⟩;have hJr1:=hJr.out.below hby;have hkr1:=hkr.out.trans hJr1.2 (fun _=>id);replace hkr:=hkr1;replace hJr:=hJr1.1;have hdr:=Drop_run (ls:=LS) hJr hf6 hf40.out hgr.out (by omega) hoff.out;rw[hdl.out] at hdr;simp only[Bool.false_eq_true,if_false] at hdr;rw[hst.out] at hdr;clear hJr1 hkr1 hby;replace hgr2:=hgr2.out;replace hgt:=hgt.out;replace hue:=hue.out;replace hst:=hst.out;replace hI:=hI.out;replace hgr:=hgr.out;replace hdc:=hdc.out;replace hdf:=hdf.out;replace hdl:=hdl.out;replace hf40:=hf40.out;replace hov:=hov.out;replace hdd:=hdd.out;replace hd:=hd.out;replace he:=he.out;replace hoff:=hoff.out;replace hdr:=Lib.hid hdr;replace hgr2:=Lib.hid hgr2;replace hgt:=Lib.hid hgt;replace hue:=Lib.hid hue;replace hst:=Lib.hid hst;replace hI:=Lib.hid hI;replace hJr:=Lib.hid hJr;replace hgr:=Lib.hid hgr;replace hkr:=Lib.hid hkr;replace hdc:=Lib.hid hdc;replace hdf:=Lib.hid hdf;replace hdl:=Lib.hid hdl;replace hf40:=Lib.hid hf40;replace hov:=Lib.hid hov;replace hdd:=Lib.hid hdd;replace hd:=Lib.hid hd;replace he:=Lib.hid he;replace hoff:=Lib.hid hoff;go_wp2_with fail
     refine hdr.out.mono ?_;clear hdr;rintro e wt ⟨rfl,hk8,hJt⟩;have hkt:=hkr.out.trans hk8 (fun _=>id);have hct:=hdc.out;have hft:=hdf.out;obtain⟨Jt,hJt2⟩:∃x:JW,(⟨r.J.li,r.J.en,[],[]⟩:JW)=x:=⟨_,rfl⟩
     have hfs0:Jt.fs=[]:=by rw[←hJt2]
     have hts0:Jt.ts=[]:=by rw[←hJt2]
     rw[hJt2] at hJt;have hrm:=Room_dx hJt.dx_;rw[hct.room] at hrm;replace hrm:=Lib.hid hrm;replace hJt2:=Lib.hid hJt2;replace hfs0:=Lib.hid hfs0;replace hts0:=Lib.hid hts0;replace hk8:=Lib.hid hk8;replace hJt:=Lib.hid hJt;replace hkt:=Lib.hid hkt;replace hct:=Lib.hid hct;replace hft:=Lib.hid hft;go_wp2_with fail
     refine hrm.out.mono ?_;clear hrm;rintro e w' ⟨rfl,rfl⟩
     by_cases hRm:R=1048576
     ·have hRm1:((R:Int)==1048576)=true:=by rw[hRm];rfl
      have hJt:=hJt.out;have hkt:=hkt.out;have hct:=hct.out;have hft:=hft.out;have hso:=Step_over hJt hct.off;replace hJt:=Lib.hid hJt;replace hkt:=Lib.hid hkt;replace hct:=Lib.hid hct;replace hft:=Lib.hid hft;replace hso:=Lib.hid hso;go_wp2_with fail
      refine hso.out.mono ?_;clear hso;rintro e wu ⟨rfl,hku,hJu⟩;have hkW:=hkt.out.trans hku (fun _=>id);have hDu:=hJu.dx_;have hli:=List_dx hDu hgt.out (by omega);have hnm:=names_other hct.out hft.out
      have hnm1:st.names.length=1:=by have:=congrArg List.length hnm;simpa using this
      rw[hnm1] at hli;replace hli:=Lib.hid hli;replace hJu:=Lib.hid hJu;replace hku:=Lib.hid hku;replace hkW:=Lib.hid hkW;replace hDu:=Lib.hid hDu;replace hnm:=Lib.hid hnm;replace hnm1:=Lib.hid hnm1;go_wp2_with fail
      refine hli.out.mono ?_;clear hli;rintro e wv ⟨vL,rfl,hoL,hbv⟩
      have hrw:st.names.map (fun p=>Value.string (bs p.1))=[.string (bs otherW)]:=by
       have:=congrArg (List.map fun x=>Value.string (bs x)) hnm.out;rw[List.map_map] at this;exact this
      rw[hrw] at hoL
      obtain⟨gL,cL,rfl,hcl0,hgl0⟩:∃g c,vL=.slice (some ⟨g,0,none⟩) 1 c∧wv.cell? ⟨g,0,none⟩=some (.string (bs otherW))∧g<wv.heap.size:=by
       rcases hoL.2 with⟨rfl,e⟩ | ⟨gg,cap,cur,rfl,_,hgg,hn1,_,hcs,htk⟩
       ·omega
       ·refine⟨gg,cap,rfl,?_,Blk.lt hgg⟩;rw[Blk.cell hgg]
        have h1:(cur.toList.take (1*1))[0]? = some (.string (bs otherW)):=by rw[htk];rfl
        rw[List.getElem?_take,if_pos (by omega),Array.getElem?_toList] at h1;exact h1
      have hzv:=hbv.size;have hJv:=hJu.out.below hbv;have hDv:=hJv.1.dx_;have hus:=Used_dx hDv hgt.out (by omega);rw[hue.out] at hus;have hbot:(bs otherW).toList=otherW:=bs_toList _;replace hus:=Lib.hid hus;replace hoL:=Lib.hid hoL;replace hbv:=Lib.hid hbv;replace hJv:=Lib.hid hJv;replace hDv:=Lib.hid hDv;replace hrw:=Lib.hid hrw;have hbo:(bs otherW)=⟨#[111,116,104,101,114]⟩:=rfl;rw[hbo] at hcl0;clear hbot hbo;go_wp2_with fail
      refine hus.out.mono ?_;clear hus;rintro e wx1 ⟨rfl,hbx⟩;have hJx:=hJv.out.1.below hbx;have hfl:=Files_any hJx.1 (by rw[hfs0.out];decide);have hzx:=hbx.size;rw[show Jt.fs.length=0 by rw[hfs0.out];rfl] at hfl;replace hfl:=Lib.hid hfl;replace hJx:=Lib.hid hJx;replace hbx:=Lib.hid hbx;go_wp2_with fail
      refine hfl.out.mono ?_;clear hfl;rintro e wx2 ⟨AF,cF,rfl,hoF,hby⟩;have hJy:=hJx.out.1.below hby;have htb:=Tables_any hJy.1 (by rw[hts0.out];decide);have hzy:=hby.size;rw[show Jt.ts.length=0 by rw[hts0.out];rfl] at htb;replace htb:=Lib.hid htb;replace hJy:=Lib.hid hJy;replace hby:=Lib.hid hby;replace hoF:=Lib.hid hoF;go_wp2_with fail
      refine htb.out.mono ?_;clear htb;rintro e wx3 ⟨AT,cT,rfl,hoT,hbz⟩;have hzz:=hbz.size;have hkend:=((((hkW.out.trans hJv.out.2 (fun _=>id)).trans hJx.out.2 (fun _=>id)).trans hJy.out.2 (fun _=>id)).trans (Keeps.of_below hbz hJy.out.1.lt) (fun _=>id));have hbend:=hbw.out.trans (hkend.below (fun k q=>hKl.out k (by omega)));have hze:=hbend.size;have haw:=jawake_any (hG.out.below hbend (by omega)) (h5.out.low hbend (by omega)) (by omega);replace haw:=Lib.hid haw;replace hoT:=Lib.hid hoT;replace hbz:=Lib.hid hbz;replace hkend:=Lib.hid hkend;replace hbend:=Lib.hid hbend;go_wp2_with fail
      refine haw.out.mono ?_;clear haw;rintro e wx4 ⟨rfl,hbq⟩;have hfin:=Lib.hid (hbend.out.trans (hbq.mono hze));replace hbq:=Lib.hid hbq;go_wp2_with fail
      go_ret
      exact⟨rfl,hfin.out⟩
     ·have hRm1:((R:Int)==1048576)=false:=by simp;omega
      have hJt:=hJt.out;have hkt:=hkt.out;have hct:=hct.out;have hft:=hft.out;have hso:=Step_over hJt hct.off;replace hJt:=Lib.hid hJt;replace hkt:=Lib.hid hkt;replace hct:=Lib.hid hct;replace hft:=Lib.hid hft;replace hso:=Lib.hid hso;go_wp2_with fail
      refine hso.out.mono ?_;clear hso;rintro e wu ⟨rfl,hku,hJu⟩;have hkW:=hkt.out.trans hku (fun _=>id);have hDu:=hJu.dx_;have hli:=List_dx hDu hgt.out (by omega);have hnm:=names_other hct.out hft.out
      have hnm1:st.names.length=1:=by have:=congrArg List.length hnm;simpa using this
      rw[hnm1] at hli;replace hli:=Lib.hid hli;replace hJu:=Lib.hid hJu;replace hku:=Lib.hid hku;replace hkW:=Lib.hid hkW;replace hDu:=Lib.hid hDu;replace hnm:=Lib.hid hnm;replace hnm1:=Lib.hid hnm1;go_wp2_with fail
      refine hli.out.mono ?_;clear hli;rintro e wv ⟨vL,rfl,hoL,hbv⟩
      have hrw:st.names.map (fun p=>Value.string (bs p.1))=[.string (bs otherW)]:=by
       have:=congrArg (List.map fun x=>Value.string (bs x)) hnm.out;rw[List.map_map] at this;exact this
      rw[hrw] at hoL
      obtain⟨gL,cL,rfl,hcl0,hgl0⟩:∃g c,vL=.slice (some ⟨g,0,none⟩) 1 c∧wv.cell? ⟨g,0,none⟩=some (.string (bs otherW))∧g<wv.heap.size:=by
       rcases hoL.2 with⟨rfl,e⟩ | ⟨gg,cap,cur,rfl,_,hgg,hn1,_,hcs,htk⟩
       ·omega
       ·refine⟨gg,cap,rfl,?_,Blk.lt hgg⟩;rw[Blk.cell hgg]
        have h1:(cur.toList.take (1*1))[0]? = some (.string (bs otherW)):=by rw[htk];rfl
        rw[List.getElem?_take,if_pos (by omega),Array.getElem?_toList] at h1;exact h1
      have hzv:=hbv.size;have hJv:=hJu.out.below hbv;have hDv:=hJv.1.dx_;have hus:=Used_dx hDv hgt.out (by omega);rw[hue.out] at hus;have hbot:(bs otherW).toList=otherW:=bs_toList _;replace hus:=Lib.hid hus;replace hoL:=Lib.hid hoL;replace hbv:=Lib.hid hbv;replace hJv:=Lib.hid hJv;replace hDv:=Lib.hid hDv;replace hrw:=Lib.hid hrw;have hbo:(bs otherW)=⟨#[111,116,104,101,114]⟩:=rfl;rw[hbo] at hcl0;clear hbot hbo;go_wp2_with fail
      refine hus.out.mono ?_;clear hus;rintro e wx1 ⟨rfl,hbx⟩;have hJx:=hJv.out.1.below hbx;have hfl:=Files_any hJx.1 (by rw[hfs0.out];decide);have hzx:=hbx.size;rw[show Jt.fs.length=0 by rw[hfs0.out];rfl] at hfl;replace hfl:=Lib.hid hfl;replace hJx:=Lib.hid hJx;replace hbx:=Lib.hid hbx;go_wp2_with fail
      refine hfl.out.mono ?_;clear hfl;rintro e wx2 ⟨AF,cF,rfl,hoF,hby⟩;have hJy:=hJx.out.1.below hby;have htb:=Tables_any hJy.1 (by rw[hts0.out];decide);have hzy:=hby.size;rw[show Jt.ts.length=0 by rw[hts0.out];rfl] at htb;replace htb:=Lib.hid htb;replace hJy:=Lib.hid hJy;replace hby:=Lib.hid hby;replace hoF:=Lib.hid hoF;go_wp2_with fail
      refine htb.out.mono ?_;clear htb;rintro e wx3 ⟨AT,cT,rfl,hoT,hbz⟩;have hzz:=hbz.size;have hkend:=((((hkW.out.trans hJv.out.2 (fun _=>id)).trans hJx.out.2 (fun _=>id)).trans hJy.out.2 (fun _=>id)).trans (Keeps.of_below hbz hJy.out.1.lt) (fun _=>id));have hbend:=hbw.out.trans (hkend.below (fun k q=>hKl.out k (by omega)));have hze:=hbend.size;have haw:=jawake_any (hG.out.below hbend (by omega)) (h5.out.low hbend (by omega)) (by omega);replace haw:=Lib.hid haw;replace hoT:=Lib.hid hoT;replace hbz:=Lib.hid hbz;replace hkend:=Lib.hid hkend;replace hbend:=Lib.hid hbend;go_wp2_with fail
      refine haw.out.mono ?_;clear haw;rintro e wx4 ⟨rfl,hbq⟩;have hfin:=Lib.hid (hbend.out.trans (hbq.mono hze));replace hbq:=Lib.hid hbq;go_wp2_with fail
      go_ret
      exact⟨rfl,hfin.out⟩
   ·rcases hI with q | hF
    ·exact absurd q.1 he
    ·have he6:=hF.e;rw[he6];have hJt:=hJr.weak (ok':=False) (fun q=>q.elim);have hfs0:=hF.fs;have hts0:=hF.ts;have hct:=hF.calm;have hft:=hF.fil;rw[hF.over,hF.dead] at hJt;obtain⟨st,hst⟩:∃x,r.s=x:=⟨_,rfl⟩;obtain⟨Jt,hJt2⟩:∃x,r.J=x:=⟨_,rfl⟩;rw[hst] at hJt hgr hct hft;rw[hJt2] at hJt hfs0 hts0;have hgt:=hgr.more (show 2+40*i≤4000 by omega)
     have hue:st.used=U:=by rw[←hU.out];exact Dsk.used_eq hcal2.out.uq hcal2.out.ok hct.uq hct.ok (fun k=>by rw[hft,hfil2.out])
     have hRr:=hF.room
     have hRm1:((R:Int)==1048576)=false:=by simp;omega
     have hrm:=Room_dx hJt.dx_;rw[hct.room] at hrm;obtain⟨wt,rfl⟩:∃x,x=wr:=⟨_,rfl⟩;replace hrm:=Lib.hid hrm;replace hF:=Lib.hid hF;replace hst:=Lib.hid hst;replace hJt2:=Lib.hid hJt2;replace hfs0:=Lib.hid hfs0;replace hts0:=Lib.hid hts0;replace hgr:=Lib.hid hgr;replace hgt:=Lib.hid hgt;replace hue:=Lib.hid hue;replace hJr:=Lib.hid hJr;replace hJt:=Lib.hid hJt;replace hct:=Lib.hid hct;replace hft:=Lib.hid hft;have hkt:=Lib.hid hkr;replace he6:=Lib.hid he6;replace he:=Lib.hid he;clear hkr;go_wp2_with fail
     refine hrm.out.mono ?_;clear hrm;rintro e w' ⟨rfl,rfl⟩;have hJt:=hJt.out;have hkt:=hkt.out;have hct:=hct.out;have hft:=hft.out;have hso:=Step_over hJt hct.off;replace hJt:=Lib.hid hJt;replace hkt:=Lib.hid hkt;replace hct:=Lib.hid hct;replace hft:=Lib.hid hft;replace hso:=Lib.hid hso;go_wp2_with fail
     refine hso.out.mono ?_;clear hso;rintro e wu ⟨rfl,hku,hJu⟩;have hkW:=hkt.out.trans hku (fun _=>id);have hDu:=hJu.dx_;have hli:=List_dx hDu hgt.out (by omega);have hnm:=names_other hct.out hft.out
     have hnm1:st.names.length=1:=by have:=congrArg List.length hnm;simpa using this
     rw[hnm1] at hli;replace hli:=Lib.hid hli;replace hJu:=Lib.hid hJu;replace hku:=Lib.hid hku;replace hkW:=Lib.hid hkW;replace hDu:=Lib.hid hDu;replace hnm:=Lib.hid hnm;replace hnm1:=Lib.hid hnm1;go_wp2_with fail
     refine hli.out.mono ?_;clear hli;rintro e wv ⟨vL,rfl,hoL,hbv⟩
     have hrw:st.names.map (fun p=>Value.string (bs p.1))=[.string (bs otherW)]:=by
      have:=congrArg (List.map fun x=>Value.string (bs x)) hnm.out;rw[List.map_map] at this;exact this
     rw[hrw] at hoL
     obtain⟨gL,cL,rfl,hcl0,hgl0⟩:∃g c,vL=.slice (some ⟨g,0,none⟩) 1 c∧wv.cell? ⟨g,0,none⟩=some (.string (bs otherW))∧g<wv.heap.size:=by
      rcases hoL.2 with⟨rfl,e⟩ | ⟨gg,cap,cur,rfl,_,hgg,hn1,_,hcs,htk⟩
      ·omega
      ·refine⟨gg,cap,rfl,?_,Blk.lt hgg⟩;rw[Blk.cell hgg]
       have h1:(cur.toList.take (1*1))[0]? = some (.string (bs otherW)):=by rw[htk];rfl
       rw[List.getElem?_take,if_pos (by omega),Array.getElem?_toList] at h1;exact h1
     have hzv:=hbv.size;have hJv:=hJu.out.below hbv;have hDv:=hJv.1.dx_;have hus:=Used_dx hDv hgt.out (by omega);rw[hue.out] at hus;have hbot:(bs otherW).toList=otherW:=bs_toList _;replace hus:=Lib.hid hus;replace hoL:=Lib.hid hoL;replace hbv:=Lib.hid hbv;replace hJv:=Lib.hid hJv;replace hDv:=Lib.hid hDv;replace hrw:=Lib.hid hrw;have hbo:(bs otherW)=⟨#[111,116,104,101,114]⟩:=rfl;rw[hbo] at hcl0;clear hbot hbo;go_wp2_with fail
     refine hus.out.mono ?_;clear hus;rintro e wx1 ⟨rfl,hbx⟩;have hJx:=hJv.out.1.below hbx;have hfl:=Files_any hJx.1 (by rw[hfs0.out];decide);have hzx:=hbx.size;rw[show Jt.fs.length=0 by rw[hfs0.out];rfl] at hfl;replace hfl:=Lib.hid hfl;replace hJx:=Lib.hid hJx;replace hbx:=Lib.hid hbx;go_wp2_with fail
     refine hfl.out.mono ?_;clear hfl;rintro e wx2 ⟨AF,cF,rfl,hoF,hby⟩;have hJy:=hJx.out.1.below hby;have htb:=Tables_any hJy.1 (by rw[hts0.out];decide);have hzy:=hby.size;rw[show Jt.ts.length=0 by rw[hts0.out];rfl] at htb;replace htb:=Lib.hid htb;replace hJy:=Lib.hid hJy;replace hby:=Lib.hid hby;replace hoF:=Lib.hid hoF;go_wp2_with fail
     refine htb.out.mono ?_;clear htb;rintro e wx3 ⟨AT,cT,rfl,hoT,hbz⟩;have hzz:=hbz.size;have hkend:=((((hkW.out.trans hJv.out.2 (fun _=>id)).trans hJx.out.2 (fun _=>id)).trans hJy.out.2 (fun _=>id)).trans (Keeps.of_below hbz hJy.out.1.lt) (fun _=>id));have hbend:=hbw.out.trans (hkend.below (fun k q=>hKl.out k (by omega)));have hze:=hbend.size;have haw:=jawake_any (hG.out.below hbend (by omega)) (h5.out.low hbend (by omega)) (by omega);replace haw:=Lib.hid haw;replace hoT:=Lib.hid hoT;replace hbz:=Lib.hid hbz;replace hkend:=Lib.hid hkend;replace hbend:=Lib.hid hbend;go_wp2_with fail
     refine haw.out.mono ?_;clear haw;rintro e wx4 ⟨rfl,hbq⟩;have hfin:=Lib.hid (hbend.out.trans (hbq.mono hze));replace hbq:=Lib.hid hbq;go_wp2_with fail
     go_ret
     exact⟨rfl,hfin.out⟩
end Go.Proofs.YtlpojfgeocpkeaaGreatDoor
