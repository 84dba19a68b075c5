/- Contracts of package job: write. -/
import Derived.Test.YtlpojfgeocpkeaaGreatDoorX33
namespace Go.Proofs.YtlpojfgeocpkeaaGreatDoor
open Go.RowKit Go.Sort
set_option linter.unusedVariables false
set_option linter.unusedSimpArgs false
theorem Keeps.kept {X:Nat→Prop}{w w':World}(h:Keeps X w w'):KeptBut w w' (fun k=>¬X k):=⟨h.os,h.tape,h.output,h.size,fun k _ hs=>h.block k (Classical.byContradiction hs)⟩
def CJ (wd:World)(ic:Nat)(P:World→Prop)(d:Nat→Bool)(w:World):Prop:=(d ic=false→w=wd)∧(d ic=true→P w)
section
variable {wd w:World}{ic:Nat}{P:World→Prop}{d:Nat→Bool}
theorem CJ.start:CJ wd ic P (fun _=>false) wd:=⟨fun _=>rfl,fun h=>by cases h⟩
theorem CJ.before (h:CJ wd ic P d w)(hd:d ic=false):wd=w:=(h.1 hd).symm
theorem CJ.called (h:P w):CJ wd ic P (setD d ic) w:=⟨fun h=>by simp[setD] at h,fun _=>h⟩
theorem CJ.other (h:CJ wd ic P d w)(i:Nat)(hi:ic≠i):CJ wd ic P (setD d i) w:=by
 unfold CJ setD;rw[if_neg hi];exact h
end
set_option maxRecDepth 100000 in
set_option maxHeartbeats 8000000 in
theorem write_one {K F:Nat→Prop}{w:World}{g d:Nat}{s:Dsk}{lv:Int}{n:Nat}{vl:Value}{li en:Nat}{gb:Option Addr}{vt vf:Value}{done over dead:Bool}{ts:List TI}{fs:List L}{os:List EL}{x:EL}{m:Nat}
  (h:JAt K F w g d s lv n vl li en gb vt vf done over dead ts fs) (hk:JK K w vl os) (hx:os[li]? = some x) (he:en<x.l.length) (hb:en≠0→∃a,gb=some ⟨a,0,none⟩∧TBIn w F a (runX (n+li) lv (x.l.take en)).1) (gd:s.Good m) (hm:m<100000) (hts:ts.length≤1000) (hfs:fs.length≤1000) (hn:n≤4294967296) (hen:en≠0) :
  Calls Tryz.prog 49 #[.pointer (some ⟨g,0,none⟩)] w fun e w'=>e=.returned (.int .i64 ((writeE n lv x.l ⟨li,en,ts,fs⟩ s).2.2:Nat))∧Keeps K w w'∧∃F' gb' vt' vf',JAt K F' w' g d (writeE n lv x.l ⟨li,en,ts,fs⟩ s).2.1 lv n vl (writeE n lv x.l ⟨li,en,ts,fs⟩ s).1.li (writeE n lv x.l ⟨li,en,ts,fs⟩ s).1.en gb' vt' vf' done over dead (writeE n lv x.l ⟨li,en,ts,fs⟩ s).1.ts (writeE n lv x.l ⟨li,en,ts,fs⟩ s).1.fs ∧
   ((writeE n lv x.l ⟨li,en,ts,fs⟩ s).2.2=0→(writeE n lv x.l ⟨li,en,ts,fs⟩ s).1.en≠0→∃a,gb'=some ⟨a,0,none⟩∧TBIn w' F' a (runX (n+(writeE n lv x.l ⟨li,en,ts,fs⟩ s).1.li) lv (x.l.take (writeE n lv x.l ⟨li,en,ts,fs⟩ s).1.en)).1):=by
 obtain⟨a,rfl,hT⟩:=hb hen;have hxm:x∈os:=List.mem_of_getElem? hx;have hok:=hk.ok x hxm;have hlo:li<os.length:=(List.getElem?_eq_some_iff.1 hx).1;have hfew:=hk.few;have hlen:=hok.len;obtain⟨VA,Vc,rfl,hls⟩:=hk.ls;obtain⟨bb,oo,rfl,hbb,hcell⟩:=hls.at_ hx;obtain⟨M,hM⟩:∃M,x.l.length=M:=⟨_,rfl⟩;obtain⟨EN,hEN⟩:∃e,x.l[en]? = some e:=⟨_,List.getElem?_eq_getElem he⟩;obtain⟨eb,eo,hxA,_⟩:=ent_at (hls.each x hxm).1 hEN;rw[hM] at hcell he hlen;rw[hxA] at hcell;have e3:w.cell? ⟨g,3,none⟩=some (.slice (some ⟨bb,oo,none⟩) os.length Vc):=h.box.cell 3;have e4:w.cell? ⟨g,4,none⟩=some (.int .i64 (li:Nat)):=h.box.cell 4;have e5:w.cell? ⟨g,5,none⟩=some (.int .i64 (en:Nat)):=h.box.cell 5;have hl:=h.box.lt
 have hlt:(li:Int)<os.length:=by omega
 have hen':¬(en:Int)=0:=by omega
 have hen2:((en:Int)==0)=false:=by simpa using hen'
 have hnlt:n+li<18446744073709551616:=by omega
 have hopen:openD n ⟨li,en,ts,fs⟩ s=(s,0):=by unfold openD;rw[if_neg hen]
 have hopf:openF n ⟨li,en,ts,fs⟩=fs:=by unfold openF;rw[if_neg hen]
 obtain⟨R,hR⟩:∃R,writeE n lv x.l ⟨li,en,ts,fs⟩ s=R:=⟨_,rfl⟩;rw[hR];obtain⟨⟨li2,en2,ts2,fs2⟩,s9,e9⟩:=R;simp only;unfold writeE at hR;rw[hopen,hopf] at hR;simp only[if_true] at hR;replace hR:=Lib.hid hR;clear hopen hopf;replace h:=Lib.hid h;replace hk:=Lib.hid hk;replace hT:=Lib.hid hT;replace gd:=Lib.hid gd;replace hok:=Lib.hid hok;replace hEN:=Lib.hid hEN;replace hM:=Lib.hid hM;replace hxA:=Lib.hid hxA;replace hx:=Lib.hid hx;clear hls hb
 go_enter Tryz.func49,Tryz.ntmps49
 go_wp2_with fail
 go_region
 have hB1:Below w.heap.size w w.drew:=(Below.refl _ _).drew;obtain⟨w1,hw1⟩:∃w1,w.drew=w1:=⟨_,rfl⟩;rw[hw1] at hB1 ⊢;clear hw1 e3 e4 e5 hl hcell;have hnum:=number_any (h.out.below hB1).box (show n+li<9223372036854775808 by omega);have hz1:=hB1.size;replace hB1:=Lib.hid hB1;replace hnum:=Lib.hid hnum;go_wp2_with fail
 refine hnum.out.mono ?_;clear hnum;rintro e w2 ⟨rfl,hb2⟩;have hB2:=hB1.out.trans (hb2.mono hz1);have hz2:=hB2.size;have hnm:=Name_any ⟨#[116,97,98,108,101]⟩ (n+li) (by decide) hnlt w2 (hk.out.keeps (.of_below hB2 (fun k q=>(h.out.kl k q).1))).five;replace hB2:=Lib.hid hB2;replace hnm:=Lib.hid hnm;clear hb2 hB1;go_wp2_with fail
 refine hnm.out.mono ?_;clear hnm;rintro e wo ⟨rfl,hb3⟩;have hB3:=hB2.out.trans (hb3.mono hz2);have hz3:=hB3.size;rw[show nameL (⟨#[116,97,98,108,101]⟩:ByteArray).data.toList (n+li)=nameT (n+li) from rfl];have hJ:=h.out.below hB3;have hTo:=hT.out.below hB3;have hKo:Keeps K w wo:=.of_below hB3 (fun k q=>(h.out.kl k q).1);obtain⟨NM,hNM⟩:∃x,nameT (n+li)=x:=⟨_,rfl⟩;have hNl:=nameT_len (n+li) hnlt;rw[hNM] at hR hNl ⊢;have gdo:=Lib.hid (gd.out.more (show m≤m+1 by omega));obtain⟨FO,rfl⟩:∃f,f=F:=⟨_,rfl⟩;obtain⟨so,rfl⟩:∃f,f=s:=⟨_,rfl⟩;have e5:wo.cell? ⟨g,5,none⟩=some (.int .i64 (en:Nat)):=hJ.box.cell 5;have e6:wo.cell? ⟨g,6,none⟩=some (.pointer (some ⟨a,0,none⟩)):=hJ.box.cell 6;have hl:=hJ.box.lt;have hko:=hk.out.keeps hKo;obtain⟨VA',Vc',hva,hls⟩:=hko.ls;clear hva;obtain⟨eb',eo',hxA',hel,c0,c1,c2,c3⟩:=ent_at (hls.each x hxm).1 hEN.out;rw[hxA.out] at hxA';injection hxA' with hxA';injection hxA' with hxA1 hxA2;subst hxA1 hxA2;have heq:EN.seq<18446744073709551616:=hok.out.seq _ (List.mem_of_getElem? hEN.out);have herr:=hok.out.snoc (n+li) lv (k:=en) (by rw[hM.out];exact he)
 have hgD:x.l.getD en ent0=EN:=by rw[List.getD_eq_getElem?_getD,hEN.out];rfl
 rw[hgD] at herr hR;obtain⟨bl,cu,hrun⟩:=hok.out.runI (n+li) lv en (by rw[hM.out];omega);have htbd:=hrun.tbd (M:=60) (by rw[List.length_take];omega);have hpl:=hok.out.piece (n+li) lv (k:=en) (by rw[hM.out];exact he);rw[hgD] at hpl;obtain⟨B0,hB0⟩:∃b,(runX (n+li) lv (x.l.take en)).1=b:=⟨_,rfl⟩;rw[hB0] at herr hR htbd hpl hTo;have hbd:Below wo.heap.size wo wo.drew:=(Below.refl _ _).drew;have hadd:=TAdd_any (hTo.below hbd) (hko.keeps (.drew (.refl K wo))).gl EN heq (M:=60) (by omega) htbd;rw[herr.2] at hadd;obtain⟨PC,hPC⟩:∃b,(B0.add EN).2=b:=⟨_,rfl⟩;rw[hPC] at hadd hR hpl;clear hTo htbd hrun hls hko;have hJd:=hJ.below hbd;clear hbd;replace hJ:=Lib.hid hJ;replace hJd:=Lib.hid hJd;unfold entC at hadd;replace hadd:=Lib.hid hadd;replace hKo:=Lib.hid hKo;replace hNM:=Lib.hid hNM;replace hB0:=Lib.hid hB0;replace hPC:=Lib.hid hPC;replace hgD:=Lib.hid hgD;replace herr:=Lib.hid herr;go_wp2_with fail
 refine wp_region_task (CJ wo.drew 11 (fun wx=>TBIn wx (Fx FO wo.drew wx) a (B0.add EN).1∧KeptBut wo.drew wx FO)) (tauL [some (.pointer (some ⟨g,0,none⟩)),some (.pointer (some ⟨g,0,none⟩)),some (.pointer (some ⟨g,6,none⟩)),some (.pointer (some ⟨a,0,none⟩)),some (.slice (some ⟨eb,eo,none⟩) M x.c),some (.pointer (some ⟨g,0,none⟩)),some (.pointer (some ⟨g,0,none⟩)),some (.pointer (some ⟨g,5,none⟩)),some (.int .i64 (en:Nat)),some (.pointer (some ⟨eb,eo+en*4,none⟩)),some (.agg #[.string (bs EN.key),.string (bs EN.value),.int .u64 (EN.seq:Nat),.bool EN.gone]),some (.tuple #[.string (bs PC),.int .i64 0]),some (.tuple #[.string (bs PC),.int .i64 0]),some (.string (bs PC)),some (.int .i64 0),some (.string (bs PC)),some (.int .i64 0)] tauN) (usL [undef,undef,undef,undef,undef,undef,undef,undef,undef,undef,undef,undef,undef,undef,undef,undef,undef]) ?m1 ?m2 ?m3 ?m4 CJ.start ?m5 ?m6
 case m1=>kernel_rfl
 case m2=>kernel_rfl
 case m3=>kernel_rfl
 case m4=>kernel_rfl
 case m5 =>
  refine⟨?o0,?o1,?o2,?o3,?o4,?o5,?o6,?o7,?o8,?o9,?o10,?o11,?o12,?o13,?o14,?o15,?o16,trivial⟩
  case o0 =>
   intro d us wx hd hJ hp hu hi;refine .inl ⟨by kernel_rfl,fun K Q hK=>?_⟩;simp only[putAll,Act.put,Nat.reduceAdd] at hK ⊢;go_simp;refine Eq.mp ?_ (hK (.pointer (some ⟨g,0,none⟩)) _ (hJ.other 0 (by decide)) rfl (fun k u _ h=>tauL_any k u h))
   kernel_rfl
  case o1 =>
   intro d us wx hd hJ hp hu hi;have h0:us 0=_:=(hp 0 (by simp[Region.binds])).2;refine .inl ⟨by kernel_rfl,fun K Q hK=>?_⟩;simp only[putAll,Act.put,Nat.reduceAdd,h0] at hK ⊢;go_simp;refine Eq.mp ?_ (hK (.pointer (some ⟨g,0,none⟩)) _ (hJ.other 1 (by decide)) rfl (fun k u _ h=>tauL_any k u h))
   kernel_rfl
  case o2 =>
   intro d us wx hd hJ hp hu hi;have h1:us 1=_:=(hp 1 (by simp[Region.binds])).2;refine .inl ⟨by kernel_rfl,fun K Q hK=>?_⟩;simp only[putAll,Act.put,Nat.reduceAdd,h1] at hK ⊢;go_simp;refine Eq.mp ?_ (hK (.pointer (some ⟨g,6,none⟩)) _ (hJ.other 2 (by decide)) rfl (fun k u _ h=>tauL_any k u h))
   kernel_rfl
  case o3 =>
   intro d us wx hd hJ hp hu hi;have h2:us 2=_:=(hp 2 (by simp[Region.binds])).2;obtain rfl:=hJ.before (hu 11 (by kernel_rfl)).1;refine .inl ⟨by kernel_rfl,fun K Q hK=>?_⟩;simp only[putAll,Act.put,Nat.reduceAdd,h2] at hK ⊢;go_simp;refine Eq.mp ?_ (hK (.pointer (some ⟨a,0,none⟩)) _ (hJ.other 3 (by decide)) rfl (fun k u _ h=>tauL_any k u h))
   kernel_rfl
  case o4 =>
   intro d us wx hd hJ hp hu hi;refine .inl ⟨by kernel_rfl,fun K Q hK=>?_⟩;simp only[putAll,Act.put,Nat.reduceAdd] at hK ⊢;go_simp;refine Eq.mp ?_ (hK (.slice (some ⟨eb,eo,none⟩) M x.c) _ (hJ.other 4 (by decide)) rfl (fun k u _ h=>tauL_any k u h))
   kernel_rfl
  case o5 =>
   intro d us wx hd hJ hp hu hi;refine .inl ⟨by kernel_rfl,fun K Q hK=>?_⟩;simp only[putAll,Act.put,Nat.reduceAdd] at hK ⊢;go_simp;refine Eq.mp ?_ (hK (.pointer (some ⟨g,0,none⟩)) _ (hJ.other 5 (by decide)) rfl (fun k u _ h=>tauL_any k u h))
   kernel_rfl
  case o6 =>
   intro d us wx hd hJ hp hu hi;have h5:us 5=_:=(hp 5 (by simp[Region.binds])).2;refine .inl ⟨by kernel_rfl,fun K Q hK=>?_⟩;simp only[putAll,Act.put,Nat.reduceAdd,h5] at hK ⊢;go_simp;refine Eq.mp ?_ (hK (.pointer (some ⟨g,0,none⟩)) _ (hJ.other 6 (by decide)) rfl (fun k u _ h=>tauL_any k u h))
   kernel_rfl
  case o7 =>
   intro d us wx hd hJ hp hu hi;have h6:us 6=_:=(hp 6 (by simp[Region.binds])).2;refine .inl ⟨by kernel_rfl,fun K Q hK=>?_⟩;simp only[putAll,Act.put,Nat.reduceAdd,h6] at hK ⊢;go_simp;refine Eq.mp ?_ (hK (.pointer (some ⟨g,5,none⟩)) _ (hJ.other 7 (by decide)) rfl (fun k u _ h=>tauL_any k u h))
   kernel_rfl
  case o8 =>
   intro d us wx hd hJ hp hu hi;have h7:us 7=_:=(hp 7 (by simp[Region.binds])).2;obtain rfl:=hJ.before (hu 11 (by kernel_rfl)).1;refine .inl ⟨by kernel_rfl,fun K Q hK=>?_⟩;simp only[putAll,Act.put,Nat.reduceAdd,h7] at hK ⊢;go_simp;refine Eq.mp ?_ (hK (.int .i64 (en:Nat)) _ (hJ.other 8 (by decide)) rfl (fun k u _ h=>tauL_any k u h))
   kernel_rfl
  case o9 =>
   intro d us wx hd hJ hp hu hi;have h4:us 4=_:=(hp 4 (by simp[Region.binds])).2;have h8:us 8=_:=(hp 8 (by simp[Region.binds])).2;refine .inl ⟨by kernel_rfl,fun K Q hK=>?_⟩;simp only[putAll,Act.put,Nat.reduceAdd,h4,h8] at hK ⊢;go_simp;refine Eq.mp ?_ (hK (.pointer (some ⟨eb,eo+en*4,none⟩)) _ (hJ.other 9 (by decide)) rfl (fun k u _ h=>tauL_any k u h))
   kernel_rfl
  case o10 =>
   intro d us wx hd hJ hp hu hi;have h9:us 9=_:=(hp 9 (by simp[Region.binds])).2;obtain rfl:=hJ.before (hu 11 (by kernel_rfl)).1;refine .inl ⟨by kernel_rfl,fun K Q hK=>?_⟩;simp only[putAll,Act.put,Nat.reduceAdd,h9] at hK ⊢;go_simp;refine Eq.mp ?_ (hK (.agg #[.string (bs EN.key),.string (bs EN.value),.int .u64 (EN.seq:Nat),.bool EN.gone]) _ (hJ.other 10 (by decide)) rfl (fun k u _ h=>tauL_any k u h))
   kernel_rfl
  case o11 =>
   intro d us wx hd hJ hp hu hi;have h3:us 3=_:=(hp 3 (by simp[Region.binds])).2;have h10:us 10=_:=(hp 10 (by simp[Region.binds])).2;obtain rfl:=hJ.before hd;refine .inl ⟨by kernel_rfl,fun K Q hK=>?_⟩;simp only[putAll,Act.put,Nat.reduceAdd,h3,h10] at hK ⊢;go_simp
   go_at_call 72
   refine hadd.out.mono ?_;rintro e w1 ⟨rfl,hT1,hk1⟩;refine Eq.mp ?_ (hK (.tuple #[.string (bs PC),.int .i64 0]) w1 (CJ.called ⟨hT1,hk1⟩) rfl (fun k u _ h=>tauL_any k u h))
   kernel_rfl
  case o12 =>
   intro d us wx hd hJ hp hu hi;have h11:us 11=_:=(hp 11 (by simp[Region.binds])).2;refine .inl ⟨by kernel_rfl,fun K Q hK=>?_⟩;simp only[putAll,Act.put,Nat.reduceAdd,h11] at hK ⊢;go_simp;refine Eq.mp ?_ (hK (.tuple #[.string (bs PC),.int .i64 0]) _ (hJ.other 12 (by decide)) rfl (fun k u _ h=>tauL_any k u h))
   kernel_rfl
  case o13 =>
   intro d us wx hd hJ hp hu hi;have h12:us 12=_:=(hp 12 (by simp[Region.binds])).2;refine .inl ⟨by kernel_rfl,fun K Q hK=>?_⟩;simp only[putAll,Act.put,Nat.reduceAdd,h12] at hK ⊢;go_simp;refine Eq.mp ?_ (hK (.string (bs PC)) _ (hJ.other 13 (by decide)) rfl (fun k u _ h=>tauL_any k u h))
   kernel_rfl
  case o14 =>
   intro d us wx hd hJ hp hu hi;have h12:us 12=_:=(hp 12 (by simp[Region.binds])).2;refine .inl ⟨by kernel_rfl,fun K Q hK=>?_⟩;simp only[putAll,Act.put,Nat.reduceAdd,h12] at hK ⊢;go_simp;refine Eq.mp ?_ (hK (.int .i64 0) _ (hJ.other 14 (by decide)) rfl (fun k u _ h=>tauL_any k u h))
   kernel_rfl
  case o15 =>
   intro d us wx hd hJ hp hu hi;have h13:us 13=_:=(hp 13 (by simp[Region.binds])).2;refine .inl ⟨by kernel_rfl,fun K Q hK=>?_⟩;simp only[putAll,Act.put,Nat.reduceAdd,h13] at hK ⊢;go_simp;refine Eq.mp ?_ (hK (.string (bs PC)) _ (hJ.other 15 (by decide)) rfl (fun k u _ h=>tauL_any k u h))
   kernel_rfl
  case o16 =>
   intro d us wx hd hJ hp hu hi;have h14:us 14=_:=(hp 14 (by simp[Region.binds])).2;refine .inl ⟨by kernel_rfl,fun K Q hK=>?_⟩;simp only[putAll,Act.put,Nat.reduceAdd,h14] at hK ⊢;go_simp;refine Eq.mp ?_ (hK (.int .i64 0) _ (hJ.other 16 (by decide)) rfl (fun k u _ h=>tauL_any k u h))
   kernel_rfl
 intro d us wx hJ9 hall;have h0:us 0=_:=(hall 0 (by simp)).2;have h1:us 1=_:=(hall 1 (by simp)).2;have h2:us 2=_:=(hall 2 (by simp)).2;have h3:us 3=_:=(hall 3 (by simp)).2;have h4:us 4=_:=(hall 4 (by simp)).2;have h5:us 5=_:=(hall 5 (by simp)).2;have h6:us 6=_:=(hall 6 (by simp)).2;have h7:us 7=_:=(hall 7 (by simp)).2;have h8:us 8=_:=(hall 8 (by simp)).2;have h9:us 9=_:=(hall 9 (by simp)).2;have h10:us 10=_:=(hall 10 (by simp)).2;have h11:us 11=_:=(hall 11 (by simp)).2;have h12:us 12=_:=(hall 12 (by simp)).2;have h13:us 13=_:=(hall 13 (by simp)).2;have h14:us 14=_:=(hall 14 (by simp)).2;have h15:us 15=_:=(hall 15 (by simp)).2;have h16:us 16=_:=(hall 16 (by simp)).2;obtain⟨hTx,hkx⟩:=hJ9.2 (hall 11 (by simp)).1;simp only[putAll,Act.put,Nat.reduceAdd,h0,h1,h2,h3,h4,h5,h6,h7,h8,h9,h10,h11,h12,h13,h14,h15,h16];clear hJ9 hall h0 h1 h2 h3 h4 h5 h6 h7 h8 h9 h10 h11 h12 h13 h14 h15 h16 c0 c1 c2 c3 e5 e6;have hJx:=hJd.out.built hkx (fun k q=>.inl q) (F':=fun k=>(FO k∨wo.drew.heap.size≤k)∧k<wx.heap.size) (fun k q=>q);have hTc:=hTx.cut;have hKx:=hKo.out.drew.trans (hJd.out.keeps hkx (fun k q=>.inr (.inl q))) (fun _=>id);obtain⟨FX,hFX⟩:∃f,(fun k=>(FO k∨wo.drew.heap.size≤k)∧k<wx.heap.size)=f:=⟨_,rfl⟩;rw[hFX] at hJx
 replace hTc:TBIn wx FX a (B0.add EN).1:=by rw[←hFX];exact hTc
 clear hTx hkx hJd hJ hKo hadd hFX;have hla:=lay_any hJx.dx hJx.lt hJx.box gdo.out (by omega) NM PC (by omega) (by omega);have g1:=laidE_good gdo.out NM PC;obtain⟨r1,hr1⟩:∃r,laidE so NM PC=r:=⟨_,rfl⟩;rw[hr1] at hla g1 hR;obtain⟨s1,e1⟩:=r1;simp only at hla g1 hR;replace hR:=Lib.hid hR;replace hr1:=Lib.hid hr1;replace hla:=Lib.hid hla;replace hJx:=Lib.hid hJx;replace hTc:=Lib.hid hTc;replace hKx:=Lib.hid hKx;replace g1:=Lib.hid g1;go_wp2_with fail
 refine hla.out.mono ?_;clear hla;rintro e w4 ⟨rfl,hD4,hk4⟩;obtain⟨h4,K4⟩:=hJx.out.disk hD4 hk4;have hT4:=hTc.out.kept hk4.kept (fun k q e=>e (.inr (.inr q)));have K5:=hKx.out.trans K4 (fun _=>id);clear hD4 hk4 K4 hJx hTc hKx
 by_cases he1:e1=0
 ·subst he1;have y5:w4.cell? ⟨g,5,none⟩=some (.int .i64 (en:Nat)):=h4.box.cell 5;have y5f:=h4.box.frozen 5;have hl4:=h4.box.lt;obtain⟨h5,L1⟩:=h4.more_ (en':=en+1) (o:=5) (v:=.int .i64 ((en:Int)+1)) (h4.box.set_ 5 (.int .i64 ((en:Int)+1)))
  have hT5:=hT4.kept ((KeptBut.refl w4 (fun k=>k=g)).then_set rfl (o:=5) (v:=.int .i64 ((en:Int)+1))) (fun k q e=>(h4.fl k q).2 (.inl e))
  have K6:=K5.trans L1 (fun _=>id);have y5':(w4.setCell ⟨g,5,none⟩ (.int .i64 ((en:Int)+1))).cell? ⟨g,5,none⟩=some (.int .i64 ((en:Int)+1)):=h5.box.cell 5;have hl5:=h5.box.lt;clear L1
  by_cases hlast:en+1<M
  ·have hlast':(en:Int)+1<M:=by omega
   replace h4:=Lib.hid h4;replace h5:=Lib.hid h5;replace hT4:=Lib.hid hT4;replace hT5:=Lib.hid hT5;replace K5:=Lib.hid K5;replace K6:=Lib.hid K6;go_wp2_with fail
   go_ret
   have q0:=hR.out.out;simp only[if_true] at q0;rw[if_pos (by rw[hM.out];exact hlast)] at q0;injection q0 with q1 q2;injection q1 with q3 q4 q5 q6;injection q2 with q7 q8;subst q3 q4 q5 q6 q7 q8;refine⟨rfl,K6.out,FX,_,_,_,h5.out,fun _ _=>⟨a,rfl,?_⟩⟩;rw[herr.out.1];exact hT5.out
  ·have hlast':¬(en:Int)+1<M:=by omega
   obtain rfl:M=en+1:=by omega
   have htk:x.l.take (en+1)=x.l:=List.take_of_length_le (by rw[hM.out];exact Nat.le_refl _);obtain⟨bl2,cu2,hrun2⟩:=hok.out.runI (n+li) lv (en+1) (by rw[hM.out];exact Nat.le_refl _);have hsm:=hok.out.small (n+li) lv (en+1) (by rw[hM.out];exact Nat.le_refl _);rw[htk] at hrun2 hsm
   have hB2:(B0.add EN).1=(runX (n+li) lv x.l).1:=by rw[←htk,herr.out.1]
   rw[hB2] at hT5;have hfin:=finish_any h5 hT5 (hk.out.keeps K6).gl (hk.out.low _ (by decide)) (hk.out.low _ (by decide)) hrun2 (by intro e;have:=hM.out;rw[e] at this;cases this) hok.out.len g1.out (by omega) NM (by omega) hts (by omega) (by omega);obtain⟨r3,hr3⟩:∃r,finD s1 NM (runX (n+li) lv x.l).1.outL=r:=⟨_,rfl⟩;have q0:=hR.out.out;simp only[if_true] at q0;rw[if_neg (by rw[hM.out];omega)] at q0;rw[hr3] at hfin q0;obtain⟨s3,e3⟩:=r3;simp only at hfin q0;replace q0:=Lib.hid q0;replace hfin:=Lib.hid hfin;replace h4:=Lib.hid h4;replace h5:=Lib.hid h5;replace hT4:=Lib.hid hT4;replace hT5:=Lib.hid hT5;replace K5:=Lib.hid K5;replace K6:=Lib.hid K6;replace hB2:=Lib.hid hB2;replace htk:=Lib.hid htk;replace hsm:=Lib.hid hsm;replace hr3:=Lib.hid hr3;clear hrun2;go_wp2_with fail
   refine hfin.out.mono ?_;clear hfin;rintro e w6 ⟨rfl,K7,F7,vt7,h7⟩;have K8:=K6.out.trans K7 (fun _=>id);replace K8:=Lib.hid K8;replace h7:=Lib.hid h7;clear K7;go_wp2_with fail
   go_ret
   have q:=q0.out;replace h7:=h7.out
   by_cases he3:e3=0
   ·subst he3;simp only[if_true] at q h7;injection q with q1 q2;injection q1 with q3 q4 q5 q6;injection q2 with q7 q8;subst q3 q4 q5 q6 q7 q8;exact⟨rfl,K8.out,F7,_,_,_,h7,fun _ e=>absurd rfl e⟩
   ·rw[if_neg he3] at q;rw[if_neg he3,if_neg he3,if_neg he3] at h7;injection q with q1 q2;injection q1 with q3 q4 q5 q6;injection q2 with q7 q8;subst q3 q4 q5 q6 q7 q8;exact⟨rfl,K8.out,F7,_,_,_,h7,fun e=>absurd e he3⟩
 ·have he1':¬(e1:Int)=0:=by omega
  have hb1:((e1:Int)==0)=false:=by simpa using he1'
  replace h4:=Lib.hid h4;replace K5:=Lib.hid K5;clear hT4;go_wp2_with fail
  go_ret
  have q0:=hR.out.out;rw[if_neg he1] at q0;injection q0 with q1 q2;injection q1 with q3 q4 q5 q6;injection q2 with q7 q8;subst q3 q4 q5 q6 q7 q8;exact⟨rfl,K5.out,FX,_,_,_,h4.out,fun e=>absurd e he1⟩
end Go.Proofs.YtlpojfgeocpkeaaGreatDoor
