/- Contracts: symMerge at entries. -/
import Derived.Test.YtlpojfgeocpkeaaGreatDoorX13
namespace Go.Proofs.YtlpojfgeocpkeaaGreatDoor
open Go.RowKit Go.Sort
set_option linter.unusedVariables false
set_option linter.unusedSimpArgs false
def SymIs (g cap N f:Nat):Prop:=∀(W:World) (dk:Array Ent),SRow W g cap dk→dk.size=N→∀x y z:Nat,x<y→y<z→z≤N→z-x≤f →
 Calls Tryz.prog 176 #[.slice (some ⟨g,0,none⟩) N cap,.int .i64 (x:Nat),.int .i64 (y:Nat),.int .i64 (z:Nat),.func (.func 66) #[] #[]] W fun e w'=>e=.returned (.tuple #[])∧SRow w' g cap (symM ltE f x y z dk)∧KeptBut W w' (fun k=>k=g)
set_option maxRecDepth 100000 in
set_option maxHeartbeats 16000000 in
theorem Sym_main {w:World}{g cap N f:Nat}{d:Array Ent}(h:SRow w g cap d)(hN:d.size=N)(a m b:Nat)(ham:a+1<m)(hmb:m+1<b)(hbn:b≤N)(hsz:N≤1000000)(hf:b-a≤f+1)(ih:SymIs g cap N f) :
  Calls Tryz.prog 176 #[.slice (some ⟨g,0,none⟩) N cap,.int .i64 (a:Nat),.int .i64 (m:Nat),.int .i64 (b:Nat),.func (.func 66) #[] #[]] w fun e w'=>e=.returned (.tuple #[])∧SRow w' g cap (symM ltE (f+1) a m b d)∧KeptBut w w' (fun k=>k=g):=by
 have hcmp:=Lib.hid (fun (W:World) (x y:Ent)=>order_x x y W);have hspec:=symS_spec (lt:=ltE) a m b d (by omega) (by omega);obtain⟨res,hres⟩:∃res,symM ltE (f+1) a m b d=res:=⟨_,rfl⟩;rw[hres];unfold symM at hres;rw[if_neg (by omega),if_neg (by omega)] at hres;simp only at hres hspec;obtain⟨S,hS⟩:∃S,symS ltE a m b d=S:=⟨_,rfl⟩;rw[hS] at hres hspec;unfold symS at hS;obtain⟨mid,hmid,hm1,hm2⟩:∃mid,(a+b) / 2=mid∧2*mid≤a+b∧a+b≤2*mid+1:=⟨_,rfl,by omega,by omega⟩
 have em:((a:Int)+b) / 2=(mid:Nat):=by omega
 obtain⟨e1,e2,e3,e4,e5,e6,e7,e8,e9,e10⟩:=hspec;clear e9 e10;rw[hmid] at e3 e4 e5 e6 e7 e8 hS;simp only[hmid] at hres;obtain⟨e,he⟩:∃e,mid+m-S=e:=⟨_,rfl⟩;rw[he] at e4 e5 e6 e7 e8;simp only[he] at hres;have hrot:=fun (W:World) (hr:SRow W g cap d) (h1:S<m) (h2:m<e)=>Rot_any hr S m e (.func (.func 66) #[] #[]) h1 h2 (by omega) (by omega);rw[hN] at hrot;have hsR:=symR_size a m b d S;unfold symR at hres hsR;simp only[hmid,he] at hres hsR;obtain⟨D,hD⟩:∃D:Int,(m:Int)-a=D:=⟨_,rfl⟩
 have hD1:¬D=1:=by omega
 have hD2:(D==1)=false:=by simpa using hD1
 obtain⟨D',hD'⟩:∃D:Int,(b:Int)-m=D:=⟨_,rfl⟩
 have hD3:¬D'=1:=by omega
 have hD4:(D'==1)=false:=by simpa using hD3
 replace hres:=Lib.hid hres;replace hrot:=Lib.hid hrot;replace hsR:=Lib.hid hsR;replace ih:=Lib.hid ih;replace hmid:=Lib.hid hmid
 have he':(mid:Int)+m-S=(e:Nat):=by omega
 replace he:=Lib.hid he;have hE:=Lib.hid (⟨e1,e2,e3,e4,e5,e6,e7,e8,he'⟩:a≤S∧S≤m∧S≤mid∧m≤e∧e≤b∧mid≤e∧S+(e-m)=mid∧mid+(m-S)=e∧(mid:Int)+m-S=(e:Nat));clear e1 e2 e3 e4 e5 e6 e7 e8 he';replace hf:=Lib.hid hf
 replace hmb:m<b:=by omega
 replace ham:a<m:=by omega
 by_cases hmm:mid<m
 ·have hmm':(mid:Int)<m:=by omega
  rw[if_pos hmm,if_pos hmm] at hS
  have es:(mid:Int)+m-b=(mid+m-b:Nat):=by omega
  go_enter Tryz.func176,Tryz.ntmps176
  go_wp2_with fail
  go_loopw [20,21,23] (fun iv jv _ wr=>∃(i j:Nat),i≤j∧(mid+m-b)≤i∧j≤mid∧iv=.int .i64 (i:Nat)∧jv=.int .i64 (j:Nat)∧SRow wr g cap d∧srch (fun c=>!ltE d[mid+m-1-c]! d[c]!) i j=S∧KeptBut w wr (fun k=>k=g)) (fun iv jv _ _=>(intOf jv).toNat-(intOf iv).toNat)
  case atStart=>exact⟨(mid+m-b),mid,by omega,Nat.le_refl _,Nat.le_refl _,by go_num,by go_num,h,hS,KeptBut.refl _ _⟩
  case round =>
   obtain⟨i,j,hij,hmi,hjb,rfl,rfl,hr,heq,hkp⟩:=hrel;have hgl:=hr.lt
   by_cases hlt:i<j
   ·have hlt':(i:Int)<j:=by omega
    obtain⟨hh,hhe⟩:∃hh,(i+j) / 2=hh:=⟨_,rfl⟩
    have eh:((i:Int)+j) / 2=(hh:Nat):=by omega
    obtain⟨ww,hwe⟩:∃ww,mid+m-1-hh=ww:=⟨_,rfl⟩
    have ew:(mid:Int)+m-1-hh=(ww:Nat):=by omega
    have hi1:(hh:Int)<N:=by omega
    have hi2:(ww:Int)<N:=by omega
    obtain⟨p0,p1,p2,p3⟩:=hr.at_ (i:=hh) (by rw[hN];omega);obtain⟨q0,q1,q2,q3⟩:=hr.at_ (i:=ww) (by rw[hN];omega);replace hkp:=Lib.hid hkp;replace hr:=Lib.hid hr
    by_cases hlv:ordE d[ww]! d[hh]!<0
    ·have hnx:=srch_back (p:=fun c=>!ltE d[mid+m-1-c]! d[c]!) hlt (by rw[hhe,hwe];unfold ltE;simpa using hlv);rw[heq,hhe] at hnx;replace hnx:=Lib.hid hnx;replace heq:=Lib.hid heq;replace hhe:=Lib.hid hhe;replace hwe:=Lib.hid hwe;go_wp2_with fail
     have hxc:=@Ext.cell;refine wp_region_ext (by kernel_rfl) (by kernel_rfl) ?_
     repeat (go_big_quiet_step ((first | (go_at_call 66;exact Calls.ext ((hcmp.out _ d[ww]! d[hh]!))))))
     refine wpQuiet_nil ?_;clear hxc;intro wx hwx;obtain⟨x,hx⟩:=hwx;have hb:=x.below;rw[←hx] at hb;clear hx x;have hr':=Lib.hid (hr.out.below hb hgl);have hkp':=Lib.hid (hkp.out.trans (KeptBut.of_below hb) (fun _ _ h=>h));have hhe':=hhe.out;go_wp2_with fail
     exact⟨⟨i,hh,by omega,by omega,by omega,rfl,rfl,hr'.out,hnx.out.symm,hkp'.out⟩,by simp[intOf];omega⟩
    ·have hnx:=srch_go (p:=fun c=>!ltE d[mid+m-1-c]! d[c]!) hlt (by rw[hhe,hwe];unfold ltE;simpa using hlv);rw[heq,hhe] at hnx
     have hld:decide (ordE d[ww]! d[hh]!<0)=false:=by simpa using hlv
     have hld2:(!decide (ordE d[ww]! d[hh]!<0))=true:=by rw[hld];rfl
     replace hnx:=Lib.hid hnx;replace heq:=Lib.hid heq;replace hhe:=Lib.hid hhe;replace hwe:=Lib.hid hwe;go_wp2_with fail
     have hxc:=@Ext.cell;refine wp_region_ext (by kernel_rfl) (by kernel_rfl) ?_
     repeat (go_big_quiet_step ((first | (go_at_call 66;exact Calls.ext ((hcmp.out _ d[ww]! d[hh]!))))))
     refine wpQuiet_nil ?_;clear hxc;intro wx hwx;obtain⟨x,hx⟩:=hwx;have hb:=x.below;rw[←hx] at hb;clear hx x;have hr':=Lib.hid (hr.out.below hb hgl);have hkp':=Lib.hid (hkp.out.trans (KeptBut.of_below hb) (fun _ _ h=>h));have hhe':=hhe.out;go_wp2_with fail
     exact⟨⟨hh+1,j,by omega,by omega,by omega,by go_num,rfl,hr'.out,hnx.out.symm,hkp'.out⟩,by simp[intOf];omega⟩
   ·have hlt':¬(i:Int)<j:=by omega
    rw[srch_end hlt] at heq;subst heq;obtain⟨S,hSS⟩:∃S,i=S:=⟨_,rfl⟩;subst hSS;clear hS;replace hr:=Lib.hid hr;replace hkp:=Lib.hid hkp;obtain⟨e1,e2,e3,e4,e5,e6,e7,e8,he'⟩:=hE.out;have hf':=hf.out;have hz:d.size=N:=hN
    by_cases c1:i<m
    ·have c1':(i:Int)<m:=by omega
     by_cases c2:m<e
     ·have c2':(m:Int)<e:=by omega
      have hcall:=Lib.hid (hrot.out _ hr.out c1 c2);have hres:=hres.out;simp only[if_pos (⟨c1,c2⟩:i<m∧m<e)] at hres;replace hres:=Lib.hid hres;have hz:=hz;rw[←rotG_size m (e-i) (m-i) (e-m)] at hz;go_wp2_with fail
      refine hcall.out.mono ?_;rintro e' w4 ⟨rfl,hr4,hk4⟩;have hr:=Lib.hid hr4;have hkp:=Lib.hid (hkp.out.trans hk4 (fun _ _ h=>h));clear hr4 hk4 hcall
      generalize rotG m (e-i) (m-i) (e-m) d=d1 at *
      clear hrot hsR
      by_cases c3:a<i
      ·have c3':(a:Int)<i:=by omega
       by_cases c4:i<mid
       ·have c4':(i:Int)<mid:=by omega
        have hres:=hres.out;simp only[if_pos (⟨c3,c4⟩:a<i∧i<mid)] at hres;replace hres:=Lib.hid hres;have hcall:=Lib.hid (ih.out _ _ hr.out hz a i mid c3 c4 (by omega) (by omega));have hz5:=hz;rw[←symM_size (lt:=ltE) f a i mid d1] at hz5;go_wp2_with fail
        refine hcall.out.mono ?_;rintro e' w5 ⟨rfl,hr5,hk5⟩;have hr:=Lib.hid hr5;have hkp:=Lib.hid (hkp.out.trans hk5 (fun _ _ h=>h));have hz:=hz5;clear hr5 hk5 hz5
        generalize symM ltE f a i mid d1=d2 at *
        by_cases c5:mid<e
        ·have c5':(mid:Int)<e:=by omega
         by_cases c6:e<b
         ·have c6':(e:Int)<b:=by omega
          have hres2:=hres.out;rw[if_pos ⟨c5,c6⟩] at hres2;replace hres2:=Lib.hid hres2;have hcall:=Lib.hid (ih.out _ _ hr.out hz mid e b c5 c6 hbn (by omega));go_wp2_with fail
          refine hcall.out.mono ?_;rintro e' w6 ⟨rfl,hr6,hk6⟩;rw[hres2.out] at hr6;have hr:=Lib.hid hr6;have hkp:=Lib.hid (hkp.out.trans hk6 (fun _ _ h=>h));clear hr6 hk6;go_wp2_with fail
          refine bodyPost_end (results_none (by kernel_rfl) _ _ _) rfl ?_;exact⟨rfl,hr.out,hkp.out⟩
         ·have c6':¬(e:Int)<b:=by omega
          have hres2:=hres.out;rw[if_neg (fun q=>c6 q.2)] at hres2;have hr:=Lib.hid (hres2 ▸ hr.out);replace hres2:=Lib.hid hres2;go_wp2_with fail
          refine bodyPost_end (results_none (by kernel_rfl) _ _ _) rfl ?_;exact⟨rfl,hr.out,hkp.out⟩
        ·have c5':¬(mid:Int)<e:=by omega
         have hres2:=hres.out;rw[if_neg (fun q=>c5 q.1)] at hres2;have hr:=Lib.hid (hres2 ▸ hr.out);replace hres2:=Lib.hid hres2;go_wp2_with fail
         refine bodyPost_end (results_none (by kernel_rfl) _ _ _) rfl ?_;exact⟨rfl,hr.out,hkp.out⟩
       ·have c4':¬(i:Int)<mid:=by omega
        have hres:=hres.out;simp only[if_neg (fun q:a<i∧i<mid=>c4 q.2)] at hres;replace hres:=Lib.hid hres
        by_cases c5:mid<e
        ·have c5':(mid:Int)<e:=by omega
         by_cases c6:e<b
         ·have c6':(e:Int)<b:=by omega
          have hres2:=hres.out;rw[if_pos ⟨c5,c6⟩] at hres2;replace hres2:=Lib.hid hres2;have hcall:=Lib.hid (ih.out _ _ hr.out hz mid e b c5 c6 hbn (by omega));go_wp2_with fail
          refine hcall.out.mono ?_;rintro e' w6 ⟨rfl,hr6,hk6⟩;rw[hres2.out] at hr6;have hr:=Lib.hid hr6;have hkp:=Lib.hid (hkp.out.trans hk6 (fun _ _ h=>h));clear hr6 hk6;go_wp2_with fail
          refine bodyPost_end (results_none (by kernel_rfl) _ _ _) rfl ?_;exact⟨rfl,hr.out,hkp.out⟩
         ·have c6':¬(e:Int)<b:=by omega
          have hres2:=hres.out;rw[if_neg (fun q=>c6 q.2)] at hres2;have hr:=Lib.hid (hres2 ▸ hr.out);replace hres2:=Lib.hid hres2;go_wp2_with fail
          refine bodyPost_end (results_none (by kernel_rfl) _ _ _) rfl ?_;exact⟨rfl,hr.out,hkp.out⟩
        ·have c5':¬(mid:Int)<e:=by omega
         have hres2:=hres.out;rw[if_neg (fun q=>c5 q.1)] at hres2;have hr:=Lib.hid (hres2 ▸ hr.out);replace hres2:=Lib.hid hres2;go_wp2_with fail
         refine bodyPost_end (results_none (by kernel_rfl) _ _ _) rfl ?_;exact⟨rfl,hr.out,hkp.out⟩
      ·have c3':¬(a:Int)<i:=by omega
       have hres:=hres.out;simp only[if_neg (fun q:a<i∧i<mid=>c3 q.1)] at hres;replace hres:=Lib.hid hres
       by_cases c5:mid<e
       ·have c5':(mid:Int)<e:=by omega
        by_cases c6:e<b
        ·have c6':(e:Int)<b:=by omega
         have hres2:=hres.out;rw[if_pos ⟨c5,c6⟩] at hres2;replace hres2:=Lib.hid hres2;have hcall:=Lib.hid (ih.out _ _ hr.out hz mid e b c5 c6 hbn (by omega));go_wp2_with fail
         refine hcall.out.mono ?_;rintro e' w6 ⟨rfl,hr6,hk6⟩;rw[hres2.out] at hr6;have hr:=Lib.hid hr6;have hkp:=Lib.hid (hkp.out.trans hk6 (fun _ _ h=>h));clear hr6 hk6;go_wp2_with fail
         refine bodyPost_end (results_none (by kernel_rfl) _ _ _) rfl ?_;exact⟨rfl,hr.out,hkp.out⟩
        ·have c6':¬(e:Int)<b:=by omega
         have hres2:=hres.out;rw[if_neg (fun q=>c6 q.2)] at hres2;have hr:=Lib.hid (hres2 ▸ hr.out);replace hres2:=Lib.hid hres2;go_wp2_with fail
         refine bodyPost_end (results_none (by kernel_rfl) _ _ _) rfl ?_;exact⟨rfl,hr.out,hkp.out⟩
       ·have c5':¬(mid:Int)<e:=by omega
        have hres2:=hres.out;rw[if_neg (fun q=>c5 q.1)] at hres2;have hr:=Lib.hid (hres2 ▸ hr.out);replace hres2:=Lib.hid hres2;go_wp2_with fail
        refine bodyPost_end (results_none (by kernel_rfl) _ _ _) rfl ?_;exact⟨rfl,hr.out,hkp.out⟩
     ·have c2':¬(m:Int)<e:=by omega
      have hres:=hres.out;simp only[if_neg (fun q:i<m∧m<e=>c2 q.2)] at hres;replace hres:=Lib.hid hres;clear hrot hsR
      by_cases c3:a<i
      ·have c3':(a:Int)<i:=by omega
       by_cases c4:i<mid
       ·have c4':(i:Int)<mid:=by omega
        have hres:=hres.out;simp only[if_pos (⟨c3,c4⟩:a<i∧i<mid)] at hres;replace hres:=Lib.hid hres;have hcall:=Lib.hid (ih.out _ _ hr.out hz a i mid c3 c4 (by omega) (by omega));have hz5:=hz;rw[←symM_size (lt:=ltE) f a i mid d] at hz5;go_wp2_with fail
        refine hcall.out.mono ?_;rintro e' w5 ⟨rfl,hr5,hk5⟩;have hr:=Lib.hid hr5;have hkp:=Lib.hid (hkp.out.trans hk5 (fun _ _ h=>h));have hz:=hz5;clear hr5 hk5 hz5
        generalize symM ltE f a i mid d=d2 at *
        by_cases c5:mid<e
        ·have c5':(mid:Int)<e:=by omega
         by_cases c6:e<b
         ·have c6':(e:Int)<b:=by omega
          have hres2:=hres.out;rw[if_pos ⟨c5,c6⟩] at hres2;replace hres2:=Lib.hid hres2;have hcall:=Lib.hid (ih.out _ _ hr.out hz mid e b c5 c6 hbn (by omega));go_wp2_with fail
          refine hcall.out.mono ?_;rintro e' w6 ⟨rfl,hr6,hk6⟩;rw[hres2.out] at hr6;have hr:=Lib.hid hr6;have hkp:=Lib.hid (hkp.out.trans hk6 (fun _ _ h=>h));clear hr6 hk6;go_wp2_with fail
          refine bodyPost_end (results_none (by kernel_rfl) _ _ _) rfl ?_;exact⟨rfl,hr.out,hkp.out⟩
         ·have c6':¬(e:Int)<b:=by omega
          have hres2:=hres.out;rw[if_neg (fun q=>c6 q.2)] at hres2;have hr:=Lib.hid (hres2 ▸ hr.out);replace hres2:=Lib.hid hres2;go_wp2_with fail
          refine bodyPost_end (results_none (by kernel_rfl) _ _ _) rfl ?_;exact⟨rfl,hr.out,hkp.out⟩
        ·have c5':¬(mid:Int)<e:=by omega
         have hres2:=hres.out;rw[if_neg (fun q=>c5 q.1)] at hres2;have hr:=Lib.hid (hres2 ▸ hr.out);replace hres2:=Lib.hid hres2;go_wp2_with fail
         refine bodyPost_end (results_none (by kernel_rfl) _ _ _) rfl ?_;exact⟨rfl,hr.out,hkp.out⟩
       ·have c4':¬(i:Int)<mid:=by omega
        have hres:=hres.out;simp only[if_neg (fun q:a<i∧i<mid=>c4 q.2)] at hres;replace hres:=Lib.hid hres
        by_cases c5:mid<e
        ·have c5':(mid:Int)<e:=by omega
         by_cases c6:e<b
         ·have c6':(e:Int)<b:=by omega
          have hres2:=hres.out;rw[if_pos ⟨c5,c6⟩] at hres2;replace hres2:=Lib.hid hres2;have hcall:=Lib.hid (ih.out _ _ hr.out hz mid e b c5 c6 hbn (by omega));go_wp2_with fail
          refine hcall.out.mono ?_;rintro e' w6 ⟨rfl,hr6,hk6⟩;rw[hres2.out] at hr6;have hr:=Lib.hid hr6;have hkp:=Lib.hid (hkp.out.trans hk6 (fun _ _ h=>h));clear hr6 hk6;go_wp2_with fail
          refine bodyPost_end (results_none (by kernel_rfl) _ _ _) rfl ?_;exact⟨rfl,hr.out,hkp.out⟩
         ·have c6':¬(e:Int)<b:=by omega
          have hres2:=hres.out;rw[if_neg (fun q=>c6 q.2)] at hres2;have hr:=Lib.hid (hres2 ▸ hr.out);replace hres2:=Lib.hid hres2;go_wp2_with fail
          refine bodyPost_end (results_none (by kernel_rfl) _ _ _) rfl ?_;exact⟨rfl,hr.out,hkp.out⟩
        ·have c5':¬(mid:Int)<e:=by omega
         have hres2:=hres.out;rw[if_neg (fun q=>c5 q.1)] at hres2;have hr:=Lib.hid (hres2 ▸ hr.out);replace hres2:=Lib.hid hres2;go_wp2_with fail
         refine bodyPost_end (results_none (by kernel_rfl) _ _ _) rfl ?_;exact⟨rfl,hr.out,hkp.out⟩
      ·have c3':¬(a:Int)<i:=by omega
       have hres:=hres.out;simp only[if_neg (fun q:a<i∧i<mid=>c3 q.1)] at hres;replace hres:=Lib.hid hres
       by_cases c5:mid<e
       ·have c5':(mid:Int)<e:=by omega
        by_cases c6:e<b
        ·have c6':(e:Int)<b:=by omega
         have hres2:=hres.out;rw[if_pos ⟨c5,c6⟩] at hres2;replace hres2:=Lib.hid hres2;have hcall:=Lib.hid (ih.out _ _ hr.out hz mid e b c5 c6 hbn (by omega));go_wp2_with fail
         refine hcall.out.mono ?_;rintro e' w6 ⟨rfl,hr6,hk6⟩;rw[hres2.out] at hr6;have hr:=Lib.hid hr6;have hkp:=Lib.hid (hkp.out.trans hk6 (fun _ _ h=>h));clear hr6 hk6;go_wp2_with fail
         refine bodyPost_end (results_none (by kernel_rfl) _ _ _) rfl ?_;exact⟨rfl,hr.out,hkp.out⟩
        ·have c6':¬(e:Int)<b:=by omega
         have hres2:=hres.out;rw[if_neg (fun q=>c6 q.2)] at hres2;have hr:=Lib.hid (hres2 ▸ hr.out);replace hres2:=Lib.hid hres2;go_wp2_with fail
         refine bodyPost_end (results_none (by kernel_rfl) _ _ _) rfl ?_;exact⟨rfl,hr.out,hkp.out⟩
       ·have c5':¬(mid:Int)<e:=by omega
        have hres2:=hres.out;rw[if_neg (fun q=>c5 q.1)] at hres2;have hr:=Lib.hid (hres2 ▸ hr.out);replace hres2:=Lib.hid hres2;go_wp2_with fail
        refine bodyPost_end (results_none (by kernel_rfl) _ _ _) rfl ?_;exact⟨rfl,hr.out,hkp.out⟩
    ·have c1':¬(i:Int)<m:=by omega
     have hres:=hres.out;simp only[if_neg (fun q:i<m∧m<e=>c1 q.1)] at hres;replace hres:=Lib.hid hres;clear hrot hsR
     by_cases c3:a<i
     ·have c3':(a:Int)<i:=by omega
      by_cases c4:i<mid
      ·have c4':(i:Int)<mid:=by omega
       have hres:=hres.out;simp only[if_pos (⟨c3,c4⟩:a<i∧i<mid)] at hres;replace hres:=Lib.hid hres;have hcall:=Lib.hid (ih.out _ _ hr.out hz a i mid c3 c4 (by omega) (by omega));have hz5:=hz;rw[←symM_size (lt:=ltE) f a i mid d] at hz5;go_wp2_with fail
       refine hcall.out.mono ?_;rintro e' w5 ⟨rfl,hr5,hk5⟩;have hr:=Lib.hid hr5;have hkp:=Lib.hid (hkp.out.trans hk5 (fun _ _ h=>h));have hz:=hz5;clear hr5 hk5 hz5
       generalize symM ltE f a i mid d=d2 at *
       by_cases c5:mid<e
       ·have c5':(mid:Int)<e:=by omega
        by_cases c6:e<b
        ·have c6':(e:Int)<b:=by omega
         have hres2:=hres.out;rw[if_pos ⟨c5,c6⟩] at hres2;replace hres2:=Lib.hid hres2;have hcall:=Lib.hid (ih.out _ _ hr.out hz mid e b c5 c6 hbn (by omega));go_wp2_with fail
         refine hcall.out.mono ?_;rintro e' w6 ⟨rfl,hr6,hk6⟩;rw[hres2.out] at hr6;have hr:=Lib.hid hr6;have hkp:=Lib.hid (hkp.out.trans hk6 (fun _ _ h=>h));clear hr6 hk6;go_wp2_with fail
         refine bodyPost_end (results_none (by kernel_rfl) _ _ _) rfl ?_;exact⟨rfl,hr.out,hkp.out⟩
        ·have c6':¬(e:Int)<b:=by omega
         have hres2:=hres.out;rw[if_neg (fun q=>c6 q.2)] at hres2;have hr:=Lib.hid (hres2 ▸ hr.out);replace hres2:=Lib.hid hres2;go_wp2_with fail
         refine bodyPost_end (results_none (by kernel_rfl) _ _ _) rfl ?_;exact⟨rfl,hr.out,hkp.out⟩
       ·have c5':¬(mid:Int)<e:=by omega
        have hres2:=hres.out;rw[if_neg (fun q=>c5 q.1)] at hres2;have hr:=Lib.hid (hres2 ▸ hr.out);replace hres2:=Lib.hid hres2;go_wp2_with fail
        refine bodyPost_end (results_none (by kernel_rfl) _ _ _) rfl ?_;exact⟨rfl,hr.out,hkp.out⟩
      ·have c4':¬(i:Int)<mid:=by omega
       have hres:=hres.out;simp only[if_neg (fun q:a<i∧i<mid=>c4 q.2)] at hres;replace hres:=Lib.hid hres
       by_cases c5:mid<e
       ·have c5':(mid:Int)<e:=by omega
        by_cases c6:e<b
        ·have c6':(e:Int)<b:=by omega
         have hres2:=hres.out;rw[if_pos ⟨c5,c6⟩] at hres2;replace hres2:=Lib.hid hres2;have hcall:=Lib.hid (ih.out _ _ hr.out hz mid e b c5 c6 hbn (by omega));go_wp2_with fail
         refine hcall.out.mono ?_;rintro e' w6 ⟨rfl,hr6,hk6⟩;rw[hres2.out] at hr6;have hr:=Lib.hid hr6;have hkp:=Lib.hid (hkp.out.trans hk6 (fun _ _ h=>h));clear hr6 hk6;go_wp2_with fail
         refine bodyPost_end (results_none (by kernel_rfl) _ _ _) rfl ?_;exact⟨rfl,hr.out,hkp.out⟩
        ·have c6':¬(e:Int)<b:=by omega
         have hres2:=hres.out;rw[if_neg (fun q=>c6 q.2)] at hres2;have hr:=Lib.hid (hres2 ▸ hr.out);replace hres2:=Lib.hid hres2;go_wp2_with fail
         refine bodyPost_end (results_none (by kernel_rfl) _ _ _) rfl ?_;exact⟨rfl,hr.out,hkp.out⟩
       ·have c5':¬(mid:Int)<e:=by omega
        have hres2:=hres.out;rw[if_neg (fun q=>c5 q.1)] at hres2;have hr:=Lib.hid (hres2 ▸ hr.out);replace hres2:=Lib.hid hres2;go_wp2_with fail
        refine bodyPost_end (results_none (by kernel_rfl) _ _ _) rfl ?_;exact⟨rfl,hr.out,hkp.out⟩
     ·have c3':¬(a:Int)<i:=by omega
      have hres:=hres.out;simp only[if_neg (fun q:a<i∧i<mid=>c3 q.1)] at hres;replace hres:=Lib.hid hres
      by_cases c5:mid<e
      ·have c5':(mid:Int)<e:=by omega
       by_cases c6:e<b
       ·have c6':(e:Int)<b:=by omega
        have hres2:=hres.out;rw[if_pos ⟨c5,c6⟩] at hres2;replace hres2:=Lib.hid hres2;have hcall:=Lib.hid (ih.out _ _ hr.out hz mid e b c5 c6 hbn (by omega));go_wp2_with fail
        refine hcall.out.mono ?_;rintro e' w6 ⟨rfl,hr6,hk6⟩;rw[hres2.out] at hr6;have hr:=Lib.hid hr6;have hkp:=Lib.hid (hkp.out.trans hk6 (fun _ _ h=>h));clear hr6 hk6;go_wp2_with fail
        refine bodyPost_end (results_none (by kernel_rfl) _ _ _) rfl ?_;exact⟨rfl,hr.out,hkp.out⟩
       ·have c6':¬(e:Int)<b:=by omega
        have hres2:=hres.out;rw[if_neg (fun q=>c6 q.2)] at hres2;have hr:=Lib.hid (hres2 ▸ hr.out);replace hres2:=Lib.hid hres2;go_wp2_with fail
        refine bodyPost_end (results_none (by kernel_rfl) _ _ _) rfl ?_;exact⟨rfl,hr.out,hkp.out⟩
      ·have c5':¬(mid:Int)<e:=by omega
       have hres2:=hres.out;rw[if_neg (fun q=>c5 q.1)] at hres2;have hr:=Lib.hid (hres2 ▸ hr.out);replace hres2:=Lib.hid hres2;go_wp2_with fail
       refine bodyPost_end (results_none (by kernel_rfl) _ _ _) rfl ?_;exact⟨rfl,hr.out,hkp.out⟩
 ·have hmm':¬(mid:Int)<m:=by omega
  rw[if_neg hmm,if_neg hmm] at hS
  go_enter Tryz.func176,Tryz.ntmps176
  go_wp2_with fail
  go_loopw [20,21,23] (fun iv jv _ wr=>∃(i j:Nat),i≤j∧a≤i∧j≤m∧iv=.int .i64 (i:Nat)∧jv=.int .i64 (j:Nat)∧SRow wr g cap d∧srch (fun c=>!ltE d[mid+m-1-c]! d[c]!) i j=S∧KeptBut w wr (fun k=>k=g)) (fun iv jv _ _=>(intOf jv).toNat-(intOf iv).toNat)
  case atStart=>exact⟨a,m,by omega,Nat.le_refl _,Nat.le_refl _,by go_num,by go_num,h,hS,KeptBut.refl _ _⟩
  case round =>
   obtain⟨i,j,hij,hmi,hjb,rfl,rfl,hr,heq,hkp⟩:=hrel;have hgl:=hr.lt
   by_cases hlt:i<j
   ·have hlt':(i:Int)<j:=by omega
    obtain⟨hh,hhe⟩:∃hh,(i+j) / 2=hh:=⟨_,rfl⟩
    have eh:((i:Int)+j) / 2=(hh:Nat):=by omega
    obtain⟨ww,hwe⟩:∃ww,mid+m-1-hh=ww:=⟨_,rfl⟩
    have ew:(mid:Int)+m-1-hh=(ww:Nat):=by omega
    have hi1:(hh:Int)<N:=by omega
    have hi2:(ww:Int)<N:=by omega
    obtain⟨p0,p1,p2,p3⟩:=hr.at_ (i:=hh) (by rw[hN];omega);obtain⟨q0,q1,q2,q3⟩:=hr.at_ (i:=ww) (by rw[hN];omega);replace hkp:=Lib.hid hkp;replace hr:=Lib.hid hr
    by_cases hlv:ordE d[ww]! d[hh]!<0
    ·have hnx:=srch_back (p:=fun c=>!ltE d[mid+m-1-c]! d[c]!) hlt (by rw[hhe,hwe];unfold ltE;simpa using hlv);rw[heq,hhe] at hnx;replace hnx:=Lib.hid hnx;replace heq:=Lib.hid heq;replace hhe:=Lib.hid hhe;replace hwe:=Lib.hid hwe;go_wp2_with fail
     have hxc:=@Ext.cell;refine wp_region_ext (by kernel_rfl) (by kernel_rfl) ?_
     repeat (go_big_quiet_step ((first | (go_at_call 66;exact Calls.ext ((hcmp.out _ d[ww]! d[hh]!))))))
     refine wpQuiet_nil ?_;clear hxc;intro wx hwx;obtain⟨x,hx⟩:=hwx;have hb:=x.below;rw[←hx] at hb;clear hx x;have hr':=Lib.hid (hr.out.below hb hgl);have hkp':=Lib.hid (hkp.out.trans (KeptBut.of_below hb) (fun _ _ h=>h));have hhe':=hhe.out;go_wp2_with fail
     exact⟨⟨i,hh,by omega,by omega,by omega,rfl,rfl,hr'.out,hnx.out.symm,hkp'.out⟩,by simp[intOf];omega⟩
    ·have hnx:=srch_go (p:=fun c=>!ltE d[mid+m-1-c]! d[c]!) hlt (by rw[hhe,hwe];unfold ltE;simpa using hlv);rw[heq,hhe] at hnx
     have hld:decide (ordE d[ww]! d[hh]!<0)=false:=by simpa using hlv
     have hld2:(!decide (ordE d[ww]! d[hh]!<0))=true:=by rw[hld];rfl
     replace hnx:=Lib.hid hnx;replace heq:=Lib.hid heq;replace hhe:=Lib.hid hhe;replace hwe:=Lib.hid hwe;go_wp2_with fail
     have hxc:=@Ext.cell;refine wp_region_ext (by kernel_rfl) (by kernel_rfl) ?_
     repeat (go_big_quiet_step ((first | (go_at_call 66;exact Calls.ext ((hcmp.out _ d[ww]! d[hh]!))))))
     refine wpQuiet_nil ?_;clear hxc;intro wx hwx;obtain⟨x,hx⟩:=hwx;have hb:=x.below;rw[←hx] at hb;clear hx x;have hr':=Lib.hid (hr.out.below hb hgl);have hkp':=Lib.hid (hkp.out.trans (KeptBut.of_below hb) (fun _ _ h=>h));have hhe':=hhe.out;go_wp2_with fail
     exact⟨⟨hh+1,j,by omega,by omega,by omega,by go_num,rfl,hr'.out,hnx.out.symm,hkp'.out⟩,by simp[intOf];omega⟩
   ·have hlt':¬(i:Int)<j:=by omega
    rw[srch_end hlt] at heq;subst heq;obtain⟨S,hSS⟩:∃S,i=S:=⟨_,rfl⟩;subst hSS;clear hS;replace hr:=Lib.hid hr;replace hkp:=Lib.hid hkp;obtain⟨e1,e2,e3,e4,e5,e6,e7,e8,he'⟩:=hE.out;have hf':=hf.out;have hz:d.size=N:=hN
    by_cases c1:i<m
    ·have c1':(i:Int)<m:=by omega
     by_cases c2:m<e
     ·have c2':(m:Int)<e:=by omega
      have hcall:=Lib.hid (hrot.out _ hr.out c1 c2);have hres:=hres.out;simp only[if_pos (⟨c1,c2⟩:i<m∧m<e)] at hres;replace hres:=Lib.hid hres;have hz:=hz;rw[←rotG_size m (e-i) (m-i) (e-m)] at hz;go_wp2_with fail
      refine hcall.out.mono ?_;rintro e' w4 ⟨rfl,hr4,hk4⟩;have hr:=Lib.hid hr4;have hkp:=Lib.hid (hkp.out.trans hk4 (fun _ _ h=>h));clear hr4 hk4 hcall
      generalize rotG m (e-i) (m-i) (e-m) d=d1 at *
      clear hrot hsR
      by_cases c3:a<i
      ·have c3':(a:Int)<i:=by omega
       by_cases c4:i<mid
       ·have c4':(i:Int)<mid:=by omega
        have hres:=hres.out;simp only[if_pos (⟨c3,c4⟩:a<i∧i<mid)] at hres;replace hres:=Lib.hid hres;have hcall:=Lib.hid (ih.out _ _ hr.out hz a i mid c3 c4 (by omega) (by omega));have hz5:=hz;rw[←symM_size (lt:=ltE) f a i mid d1] at hz5;go_wp2_with fail
        refine hcall.out.mono ?_;rintro e' w5 ⟨rfl,hr5,hk5⟩;have hr:=Lib.hid hr5;have hkp:=Lib.hid (hkp.out.trans hk5 (fun _ _ h=>h));have hz:=hz5;clear hr5 hk5 hz5
        generalize symM ltE f a i mid d1=d2 at *
        by_cases c5:mid<e
        ·have c5':(mid:Int)<e:=by omega
         by_cases c6:e<b
         ·have c6':(e:Int)<b:=by omega
          have hres2:=hres.out;rw[if_pos ⟨c5,c6⟩] at hres2;replace hres2:=Lib.hid hres2;have hcall:=Lib.hid (ih.out _ _ hr.out hz mid e b c5 c6 hbn (by omega));go_wp2_with fail
          refine hcall.out.mono ?_;rintro e' w6 ⟨rfl,hr6,hk6⟩;rw[hres2.out] at hr6;have hr:=Lib.hid hr6;have hkp:=Lib.hid (hkp.out.trans hk6 (fun _ _ h=>h));clear hr6 hk6;go_wp2_with fail
          refine bodyPost_end (results_none (by kernel_rfl) _ _ _) rfl ?_;exact⟨rfl,hr.out,hkp.out⟩
         ·have c6':¬(e:Int)<b:=by omega
          have hres2:=hres.out;rw[if_neg (fun q=>c6 q.2)] at hres2;have hr:=Lib.hid (hres2 ▸ hr.out);replace hres2:=Lib.hid hres2;go_wp2_with fail
          refine bodyPost_end (results_none (by kernel_rfl) _ _ _) rfl ?_;exact⟨rfl,hr.out,hkp.out⟩
        ·have c5':¬(mid:Int)<e:=by omega
         have hres2:=hres.out;rw[if_neg (fun q=>c5 q.1)] at hres2;have hr:=Lib.hid (hres2 ▸ hr.out);replace hres2:=Lib.hid hres2;go_wp2_with fail
         refine bodyPost_end (results_none (by kernel_rfl) _ _ _) rfl ?_;exact⟨rfl,hr.out,hkp.out⟩
       ·have c4':¬(i:Int)<mid:=by omega
        have hres:=hres.out;simp only[if_neg (fun q:a<i∧i<mid=>c4 q.2)] at hres;replace hres:=Lib.hid hres
        by_cases c5:mid<e
        ·have c5':(mid:Int)<e:=by omega
         by_cases c6:e<b
         ·have c6':(e:Int)<b:=by omega
          have hres2:=hres.out;rw[if_pos ⟨c5,c6⟩] at hres2;replace hres2:=Lib.hid hres2;have hcall:=Lib.hid (ih.out _ _ hr.out hz mid e b c5 c6 hbn (by omega));go_wp2_with fail
          refine hcall.out.mono ?_;rintro e' w6 ⟨rfl,hr6,hk6⟩;rw[hres2.out] at hr6;have hr:=Lib.hid hr6;have hkp:=Lib.hid (hkp.out.trans hk6 (fun _ _ h=>h));clear hr6 hk6;go_wp2_with fail
          refine bodyPost_end (results_none (by kernel_rfl) _ _ _) rfl ?_;exact⟨rfl,hr.out,hkp.out⟩
         ·have c6':¬(e:Int)<b:=by omega
          have hres2:=hres.out;rw[if_neg (fun q=>c6 q.2)] at hres2;have hr:=Lib.hid (hres2 ▸ hr.out);replace hres2:=Lib.hid hres2;go_wp2_with fail
          refine bodyPost_end (results_none (by kernel_rfl) _ _ _) rfl ?_;exact⟨rfl,hr.out,hkp.out⟩
        ·have c5':¬(mid:Int)<e:=by omega
         have hres2:=hres.out;rw[if_neg (fun q=>c5 q.1)] at hres2;have hr:=Lib.hid (hres2 ▸ hr.out);replace hres2:=Lib.hid hres2;go_wp2_with fail
         refine bodyPost_end (results_none (by kernel_rfl) _ _ _) rfl ?_;exact⟨rfl,hr.out,hkp.out⟩
      ·have c3':¬(a:Int)<i:=by omega
       have hres:=hres.out;simp only[if_neg (fun q:a<i∧i<mid=>c3 q.1)] at hres;replace hres:=Lib.hid hres
       by_cases c5:mid<e
       ·have c5':(mid:Int)<e:=by omega
        by_cases c6:e<b
        ·have c6':(e:Int)<b:=by omega
         have hres2:=hres.out;rw[if_pos ⟨c5,c6⟩] at hres2;replace hres2:=Lib.hid hres2;have hcall:=Lib.hid (ih.out _ _ hr.out hz mid e b c5 c6 hbn (by omega));go_wp2_with fail
         refine hcall.out.mono ?_;rintro e' w6 ⟨rfl,hr6,hk6⟩;rw[hres2.out] at hr6;have hr:=Lib.hid hr6;have hkp:=Lib.hid (hkp.out.trans hk6 (fun _ _ h=>h));clear hr6 hk6;go_wp2_with fail
         refine bodyPost_end (results_none (by kernel_rfl) _ _ _) rfl ?_;exact⟨rfl,hr.out,hkp.out⟩
        ·have c6':¬(e:Int)<b:=by omega
         have hres2:=hres.out;rw[if_neg (fun q=>c6 q.2)] at hres2;have hr:=Lib.hid (hres2 ▸ hr.out);replace hres2:=Lib.hid hres2;go_wp2_with fail
         refine bodyPost_end (results_none (by kernel_rfl) _ _ _) rfl ?_;exact⟨rfl,hr.out,hkp.out⟩
       ·have c5':¬(mid:Int)<e:=by omega
        have hres2:=hres.out;rw[if_neg (fun q=>c5 q.1)] at hres2;have hr:=Lib.hid (hres2 ▸ hr.out);replace hres2:=Lib.hid hres2;go_wp2_with fail
        refine bodyPost_end (results_none (by kernel_rfl) _ _ _) rfl ?_;exact⟨rfl,hr.out,hkp.out⟩
     ·have c2':¬(m:Int)<e:=by omega
      have hres:=hres.out;simp only[if_neg (fun q:i<m∧m<e=>c2 q.2)] at hres;replace hres:=Lib.hid hres;clear hrot hsR
      by_cases c3:a<i
      ·have c3':(a:Int)<i:=by omega
       by_cases c4:i<mid
       ·have c4':(i:Int)<mid:=by omega
        have hres:=hres.out;simp only[if_pos (⟨c3,c4⟩:a<i∧i<mid)] at hres;replace hres:=Lib.hid hres;have hcall:=Lib.hid (ih.out _ _ hr.out hz a i mid c3 c4 (by omega) (by omega));have hz5:=hz;rw[←symM_size (lt:=ltE) f a i mid d] at hz5;go_wp2_with fail
        refine hcall.out.mono ?_;rintro e' w5 ⟨rfl,hr5,hk5⟩;have hr:=Lib.hid hr5;have hkp:=Lib.hid (hkp.out.trans hk5 (fun _ _ h=>h));have hz:=hz5;clear hr5 hk5 hz5
        generalize symM ltE f a i mid d=d2 at *
        by_cases c5:mid<e
        ·have c5':(mid:Int)<e:=by omega
         by_cases c6:e<b
         ·have c6':(e:Int)<b:=by omega
          have hres2:=hres.out;rw[if_pos ⟨c5,c6⟩] at hres2;replace hres2:=Lib.hid hres2;have hcall:=Lib.hid (ih.out _ _ hr.out hz mid e b c5 c6 hbn (by omega));go_wp2_with fail
          refine hcall.out.mono ?_;rintro e' w6 ⟨rfl,hr6,hk6⟩;rw[hres2.out] at hr6;have hr:=Lib.hid hr6;have hkp:=Lib.hid (hkp.out.trans hk6 (fun _ _ h=>h));clear hr6 hk6;go_wp2_with fail
          refine bodyPost_end (results_none (by kernel_rfl) _ _ _) rfl ?_;exact⟨rfl,hr.out,hkp.out⟩
         ·have c6':¬(e:Int)<b:=by omega
          have hres2:=hres.out;rw[if_neg (fun q=>c6 q.2)] at hres2;have hr:=Lib.hid (hres2 ▸ hr.out);replace hres2:=Lib.hid hres2;go_wp2_with fail
          refine bodyPost_end (results_none (by kernel_rfl) _ _ _) rfl ?_;exact⟨rfl,hr.out,hkp.out⟩
        ·have c5':¬(mid:Int)<e:=by omega
         have hres2:=hres.out;rw[if_neg (fun q=>c5 q.1)] at hres2;have hr:=Lib.hid (hres2 ▸ hr.out);replace hres2:=Lib.hid hres2;go_wp2_with fail
         refine bodyPost_end (results_none (by kernel_rfl) _ _ _) rfl ?_;exact⟨rfl,hr.out,hkp.out⟩
       ·have c4':¬(i:Int)<mid:=by omega
        have hres:=hres.out;simp only[if_neg (fun q:a<i∧i<mid=>c4 q.2)] at hres;replace hres:=Lib.hid hres
        by_cases c5:mid<e
        ·have c5':(mid:Int)<e:=by omega
         by_cases c6:e<b
         ·have c6':(e:Int)<b:=by omega
          have hres2:=hres.out;rw[if_pos ⟨c5,c6⟩] at hres2;replace hres2:=Lib.hid hres2;have hcall:=Lib.hid (ih.out _ _ hr.out hz mid e b c5 c6 hbn (by omega));go_wp2_with fail
          refine hcall.out.mono ?_;rintro e' w6 ⟨rfl,hr6,hk6⟩;rw[hres2.out] at hr6;have hr:=Lib.hid hr6;have hkp:=Lib.hid (hkp.out.trans hk6 (fun _ _ h=>h));clear hr6 hk6;go_wp2_with fail
          refine bodyPost_end (results_none (by kernel_rfl) _ _ _) rfl ?_;exact⟨rfl,hr.out,hkp.out⟩
         ·have c6':¬(e:Int)<b:=by omega
          have hres2:=hres.out;rw[if_neg (fun q=>c6 q.2)] at hres2;have hr:=Lib.hid (hres2 ▸ hr.out);replace hres2:=Lib.hid hres2;go_wp2_with fail
          refine bodyPost_end (results_none (by kernel_rfl) _ _ _) rfl ?_;exact⟨rfl,hr.out,hkp.out⟩
        ·have c5':¬(mid:Int)<e:=by omega
         have hres2:=hres.out;rw[if_neg (fun q=>c5 q.1)] at hres2;have hr:=Lib.hid (hres2 ▸ hr.out);replace hres2:=Lib.hid hres2;go_wp2_with fail
         refine bodyPost_end (results_none (by kernel_rfl) _ _ _) rfl ?_;exact⟨rfl,hr.out,hkp.out⟩
      ·have c3':¬(a:Int)<i:=by omega
       have hres:=hres.out;simp only[if_neg (fun q:a<i∧i<mid=>c3 q.1)] at hres;replace hres:=Lib.hid hres
       by_cases c5:mid<e
       ·have c5':(mid:Int)<e:=by omega
        by_cases c6:e<b
        ·have c6':(e:Int)<b:=by omega
         have hres2:=hres.out;rw[if_pos ⟨c5,c6⟩] at hres2;replace hres2:=Lib.hid hres2;have hcall:=Lib.hid (ih.out _ _ hr.out hz mid e b c5 c6 hbn (by omega));go_wp2_with fail
         refine hcall.out.mono ?_;rintro e' w6 ⟨rfl,hr6,hk6⟩;rw[hres2.out] at hr6;have hr:=Lib.hid hr6;have hkp:=Lib.hid (hkp.out.trans hk6 (fun _ _ h=>h));clear hr6 hk6;go_wp2_with fail
         refine bodyPost_end (results_none (by kernel_rfl) _ _ _) rfl ?_;exact⟨rfl,hr.out,hkp.out⟩
        ·have c6':¬(e:Int)<b:=by omega
         have hres2:=hres.out;rw[if_neg (fun q=>c6 q.2)] at hres2;have hr:=Lib.hid (hres2 ▸ hr.out);replace hres2:=Lib.hid hres2;go_wp2_with fail
         refine bodyPost_end (results_none (by kernel_rfl) _ _ _) rfl ?_;exact⟨rfl,hr.out,hkp.out⟩
       ·have c5':¬(mid:Int)<e:=by omega
        have hres2:=hres.out;rw[if_neg (fun q=>c5 q.1)] at hres2;have hr:=Lib.hid (hres2 ▸ hr.out);replace hres2:=Lib.hid hres2;go_wp2_with fail
        refine bodyPost_end (results_none (by kernel_rfl) _ _ _) rfl ?_;exact⟨rfl,hr.out,hkp.out⟩
    ·have c1':¬(i:Int)<m:=by omega
     have hres:=hres.out;simp only[if_neg (fun q:i<m∧m<e=>c1 q.1)] at hres;replace hres:=Lib.hid hres;clear hrot hsR
     by_cases c3:a<i
     ·have c3':(a:Int)<i:=by omega
      by_cases c4:i<mid
      ·have c4':(i:Int)<mid:=by omega
       have hres:=hres.out;simp only[if_pos (⟨c3,c4⟩:a<i∧i<mid)] at hres;replace hres:=Lib.hid hres;have hcall:=Lib.hid (ih.out _ _ hr.out hz a i mid c3 c4 (by omega) (by omega));have hz5:=hz;rw[←symM_size (lt:=ltE) f a i mid d] at hz5;go_wp2_with fail
       refine hcall.out.mono ?_;rintro e' w5 ⟨rfl,hr5,hk5⟩;have hr:=Lib.hid hr5;have hkp:=Lib.hid (hkp.out.trans hk5 (fun _ _ h=>h));have hz:=hz5;clear hr5 hk5 hz5
       generalize symM ltE f a i mid d=d2 at *
       by_cases c5:mid<e
       ·have c5':(mid:Int)<e:=by omega
        by_cases c6:e<b
        ·have c6':(e:Int)<b:=by omega
         have hres2:=hres.out;rw[if_pos ⟨c5,c6⟩] at hres2;replace hres2:=Lib.hid hres2;have hcall:=Lib.hid (ih.out _ _ hr.out hz mid e b c5 c6 hbn (by omega));go_wp2_with fail
         refine hcall.out.mono ?_;rintro e' w6 ⟨rfl,hr6,hk6⟩;rw[hres2.out] at hr6;have hr:=Lib.hid hr6;have hkp:=Lib.hid (hkp.out.trans hk6 (fun _ _ h=>h));clear hr6 hk6;go_wp2_with fail
         refine bodyPost_end (results_none (by kernel_rfl) _ _ _) rfl ?_;exact⟨rfl,hr.out,hkp.out⟩
        ·have c6':¬(e:Int)<b:=by omega
         have hres2:=hres.out;rw[if_neg (fun q=>c6 q.2)] at hres2;have hr:=Lib.hid (hres2 ▸ hr.out);replace hres2:=Lib.hid hres2;go_wp2_with fail
         refine bodyPost_end (results_none (by kernel_rfl) _ _ _) rfl ?_;exact⟨rfl,hr.out,hkp.out⟩
       ·have c5':¬(mid:Int)<e:=by omega
        have hres2:=hres.out;rw[if_neg (fun q=>c5 q.1)] at hres2;have hr:=Lib.hid (hres2 ▸ hr.out);replace hres2:=Lib.hid hres2;go_wp2_with fail
        refine bodyPost_end (results_none (by kernel_rfl) _ _ _) rfl ?_;exact⟨rfl,hr.out,hkp.out⟩
      ·have c4':¬(i:Int)<mid:=by omega
       have hres:=hres.out;simp only[if_neg (fun q:a<i∧i<mid=>c4 q.2)] at hres;replace hres:=Lib.hid hres
       by_cases c5:mid<e
       ·have c5':(mid:Int)<e:=by omega
        by_cases c6:e<b
        ·have c6':(e:Int)<b:=by omega
         have hres2:=hres.out;rw[if_pos ⟨c5,c6⟩] at hres2;replace hres2:=Lib.hid hres2;have hcall:=Lib.hid (ih.out _ _ hr.out hz mid e b c5 c6 hbn (by omega));go_wp2_with fail
         refine hcall.out.mono ?_;rintro e' w6 ⟨rfl,hr6,hk6⟩;rw[hres2.out] at hr6;have hr:=Lib.hid hr6;have hkp:=Lib.hid (hkp.out.trans hk6 (fun _ _ h=>h));clear hr6 hk6;go_wp2_with fail
         refine bodyPost_end (results_none (by kernel_rfl) _ _ _) rfl ?_;exact⟨rfl,hr.out,hkp.out⟩
        ·have c6':¬(e:Int)<b:=by omega
         have hres2:=hres.out;rw[if_neg (fun q=>c6 q.2)] at hres2;have hr:=Lib.hid (hres2 ▸ hr.out);replace hres2:=Lib.hid hres2;go_wp2_with fail
         refine bodyPost_end (results_none (by kernel_rfl) _ _ _) rfl ?_;exact⟨rfl,hr.out,hkp.out⟩
       ·have c5':¬(mid:Int)<e:=by omega
        have hres2:=hres.out;rw[if_neg (fun q=>c5 q.1)] at hres2;have hr:=Lib.hid (hres2 ▸ hr.out);replace hres2:=Lib.hid hres2;go_wp2_with fail
        refine bodyPost_end (results_none (by kernel_rfl) _ _ _) rfl ?_;exact⟨rfl,hr.out,hkp.out⟩
     ·have c3':¬(a:Int)<i:=by omega
      have hres:=hres.out;simp only[if_neg (fun q:a<i∧i<mid=>c3 q.1)] at hres;replace hres:=Lib.hid hres
      by_cases c5:mid<e
      ·have c5':(mid:Int)<e:=by omega
       by_cases c6:e<b
       ·have c6':(e:Int)<b:=by omega
        have hres2:=hres.out;rw[if_pos ⟨c5,c6⟩] at hres2;replace hres2:=Lib.hid hres2;have hcall:=Lib.hid (ih.out _ _ hr.out hz mid e b c5 c6 hbn (by omega));go_wp2_with fail
        refine hcall.out.mono ?_;rintro e' w6 ⟨rfl,hr6,hk6⟩;rw[hres2.out] at hr6;have hr:=Lib.hid hr6;have hkp:=Lib.hid (hkp.out.trans hk6 (fun _ _ h=>h));clear hr6 hk6;go_wp2_with fail
        refine bodyPost_end (results_none (by kernel_rfl) _ _ _) rfl ?_;exact⟨rfl,hr.out,hkp.out⟩
       ·have c6':¬(e:Int)<b:=by omega
        have hres2:=hres.out;rw[if_neg (fun q=>c6 q.2)] at hres2;have hr:=Lib.hid (hres2 ▸ hr.out);replace hres2:=Lib.hid hres2;go_wp2_with fail
        refine bodyPost_end (results_none (by kernel_rfl) _ _ _) rfl ?_;exact⟨rfl,hr.out,hkp.out⟩
      ·have c5':¬(mid:Int)<e:=by omega
       have hres2:=hres.out;rw[if_neg (fun q=>c5 q.1)] at hres2;have hr:=Lib.hid (hres2 ▸ hr.out);replace hres2:=Lib.hid hres2;go_wp2_with fail
       refine bodyPost_end (results_none (by kernel_rfl) _ _ _) rfl ?_;exact⟨rfl,hr.out,hkp.out⟩
theorem Sym_any (g cap N:Nat)(hsz:N≤1000000):∀f,SymIs g cap N f
 | 0,W,dk,hr,hk,x,y,z,h1,h2,h3,h4=>by omega
 | f+1,W,dk,hr,hk,x,y,z,h1,h2,h3,h4=>by
  by_cases c1:y-x=1
  ·have:=Sym_one hr x y z (by omega) h2 (by omega) (by omega);rw[hk] at this;unfold symM;rw[if_pos c1];exact this
  ·by_cases c2:z-y=1
   ·have:=Sym_last hr x y z (by omega) (by omega) (by omega) (by omega);rw[hk] at this;unfold symM;rw[if_neg c1,if_pos c2];exact this
   ·exact Sym_main hr hk x y z (by omega) (by omega) h3 hsz h4 (Sym_any g cap N hsz f)
end Go.Proofs.YtlpojfgeocpkeaaGreatDoor
