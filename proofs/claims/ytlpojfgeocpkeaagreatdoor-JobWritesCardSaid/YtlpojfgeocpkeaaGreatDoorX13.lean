/- Contracts: insertionSort at entries. Contracts: symMerge at entries: one element ahead of a row. Contracts: symMerge at entries: one element behind a row. -/
import Derived.Test.YtlpojfgeocpkeaaGreatDoorX12
namespace Go.Proofs.YtlpojfgeocpkeaaGreatDoor
open Go.RowKit Go.Sort
set_option linter.unusedVariables false
set_option linter.unusedSimpArgs false
theorem insOuter_go (lt:Ent→Ent→Bool)(a b i:Nat)(d:Array Ent)(h:i<b):insOuter lt a b i d=insOuter lt a b (i+1) (insInner lt a i d):=by
 conv=>lhs;unfold insOuter
 rw[if_pos h]
theorem insOuter_end (lt:Ent→Ent→Bool)(a b i:Nat)(d:Array Ent)(h:¬i<b):insOuter lt a b i d=d:=by
 unfold insOuter;rw[if_neg h]
theorem insInner_st (lt:Ent→Ent→Bool)(a j:Nat)(d:Array Ent)(h:j≤a∨lt d[j]! d[j-1]! = false):insInner lt a j d=d:=by
 cases j with
 | zero=>rfl
 | succ j =>
  unfold insInner;rw[if_neg];simp only[Bool.and_eq_true,decide_eq_true_eq];rintro ⟨h1,h2⟩;rcases h with h | h
  ·omega
  ·rw[Nat.add_sub_cancel] at h
   rw[h] at h2;cases h2
theorem insInner_go (lt:Ent→Ent→Bool)(a j:Nat)(d:Array Ent)(h:a<j+1)(h2:lt d[j+1]! d[j]! = true):insInner lt a (j+1) d=insInner lt a j (swp d (j+1) j):=by
 conv=>lhs;unfold insInner
 rw[if_pos (by simp only[Bool.and_eq_true,decide_eq_true_eq];exact⟨h,h2⟩)]
set_option maxRecDepth 100000 in
set_option maxHeartbeats 4000000 in
theorem Ins_any {w:World}{g cap:Nat}{d:Array Ent}(h:SRow w g cap d)(a b:Nat)(hab:a≤b)(hbn:b≤d.size)(hsz:d.size≤1000000) :
  Calls Tryz.prog 175 #[.slice (some ⟨g,0,none⟩) d.size cap,.int .i64 (a:Nat),.int .i64 (b:Nat),.func (.func 66) #[] #[]] w fun e w'=>e=.returned (.tuple #[])∧SRow w' g cap (insertionSort ltE d a b)∧KeptBut w w' (fun k=>k=g):=by
 obtain⟨N,hN⟩:∃N,d.size=N:=⟨_,rfl⟩;obtain⟨res,hres⟩:∃res,insertionSort ltE d a b=res:=⟨_,rfl⟩;have hcmp:=Lib.hid (fun (W:World) (x y:Ent)=>order_x x y W);rw[hN,hres];rw[hN] at hbn hsz;unfold insertionSort at hres
 go_enter Tryz.func175,Tryz.ntmps175
 go_wp2_with fail
 go_loopw [8] (fun iv wr=>∃(i:Nat) (dk:Array Ent),a<i∧i≤b+1∧iv=.int .i64 (i:Nat)∧SRow wr g cap dk∧dk.size=N∧insOuter ltE a b i dk=res∧KeptBut w wr (fun k=>k=g)) (fun iv _=>b+1-(intOf iv).toNat)
 case atStart=>exact⟨a+1,d,by omega,by omega,by go_num,h,hN,hres,KeptBut.refl _ _⟩
 case round =>
  obtain⟨i,dk,hai,hib,rfl,hr,hdk,heq,hkp⟩:=hrel
  by_cases hlt:i<b
  ·have hlt':(i:Int)<b:=by omega
   rw[insOuter_go _ _ _ _ _ hlt] at heq;replace heq:=Lib.hid heq;replace hkp:=Lib.hid hkp;replace hr:=Lib.hid hr;go_wp2_with fail
   go_loopw [9] (fun jv ws=>∃(j:Nat) (dj:Array Ent),a≤j∧j≤i∧jv=.int .i64 (j:Nat)∧SRow ws g cap dj∧dj.size=N∧insInner ltE a j dj=insInner ltE a i dk∧KeptBut w ws (fun k=>k=g)) (fun jv _=>(intOf jv).toNat)
   case atStart=>exact⟨i,dk,by omega,Nat.le_refl _,rfl,hr.out,hdk,rfl,hkp.out⟩
   case round =>
    clear hr hkp;obtain⟨j,dj,haj,hji,rfl,hr,hdj,heqj,hkp⟩:=hrel;have hgl:=hr.lt
    by_cases hja:a<j
    ·obtain⟨jp,rfl⟩:∃jp,j=jp+1:=⟨j-1,by omega⟩
     have hja':(a:Int)<(jp:Int)+1:=by omega
     have e0:((jp:Int)+1).toNat=jp+1:=by omega
     have jz:(jp:Int)+1<N:=by omega
     have jz1:(jp:Int)<N:=by omega
     have e9:(jp:Int)+1-1=jp:=by omega
     obtain⟨p0,p1,p2,p3⟩:=hr.at_ (i:=jp+1) (by omega);obtain⟨q0,q1,q2,q3⟩:=hr.at_ (i:=jp) (by omega);replace heqj:=Lib.hid heqj;replace hkp:=Lib.hid hkp;replace hr:=Lib.hid hr
     by_cases hlv:ordE dj[jp+1]! dj[jp]!<0
     ·go_wp2_with fail
      have hxc:=@Ext.cell;refine wp_region_ext (by kernel_rfl) (by kernel_rfl) ?_
      repeat (go_big_quiet_step ((first | (go_at_call 66;exact Calls.ext ((hcmp.out _ dj[jp+1]! dj[jp]!))))))
      refine wpQuiet_nil ?_;clear hxc;intro wx hwx;obtain⟨x,hx⟩:=hwx;have hb:=x.below;rw[←hx] at hb;clear hx x;have hr':=Lib.hid (hr.out.below hb hgl);have hkp':=Lib.hid (hkp.out.trans (KeptBut.of_below hb) (fun _ _ h=>h));clear p0 p1 p2 p3 q0 q1 q2 q3 hr hkp hb hgl;have hr:=hr';have hkp:=hkp';clear hr' hkp';obtain⟨p0,p1,p2,p3⟩:=hr.out.at_ (i:=jp+1) (by omega);obtain⟨q0,q1,q2,q3⟩:=hr.out.at_ (i:=jp) (by omega);have hf:=hr.out.frz;have hgl:=hr.out.lt;go_wp2_with fail
      have hxc:=@Ext.cell;have hxf:=@Ext.frozen;refine wp_hide (fun Q0 hQ0=>?_);refine wp_region_line (fun w'=>∃x:Ext _,w'=x.w) [some false,some false,some true,some true,some true,some false,some false,some false,some false,some false,some false,some false,some false,some false,some false,none,none,none] 0 (by kernel_rfl) (by kernel_rfl) ⟨⟨_,(Below.refl _ _).drew⟩,rfl⟩ ?_;simp only[earlyL,tailL]
      repeat (first | ((with_reducible refine wpMix_p ?_);go_big_quiet_step (fail);refine wpQuiet_nil ?_) | ((with_reducible refine wpMix_e ?_);go_big_quiet_step ((first | fail));refine wpQuiet_nil ?_))
      refine wpMix_nil ?_;clear hxc hxf;intro wx hwx;obtain⟨x,hx⟩:=hwx;have hb:=x.below;rw[←hx] at hb;clear hx x;clear p0 p1 p2 p3 q0 q1 q2 q3 hf;have hrx:=hr.out.below hb hgl;have hglx:=hrx.lt;obtain⟨p0,p1,p2,p3⟩:=hrx.at_ (i:=jp+1) (by omega);obtain⟨q0,q1,q2,q3⟩:=hrx.at_ (i:=jp) (by omega);have hf:=hrx.frz;replace hrx:=Lib.hid hrx;replace hb:=Lib.hid hb;refine wpTail_step ?_;intro Q1 hQ1;go_wp2_with fail
      have hr1:=hrx.out.lay (jp+1) dj[jp]!;have hk1:KeptBut w (lay4 wx g (jp+1) dj[jp]!) (fun k=>k=g):=(hkp.out.trans (KeptBut.of_below hb.out) (fun _ _ h=>h)).lay4 rfl;unfold lay4 at hr1 hk1
      generalize (((wx.setCell ⟨g,(jp+1)*4,none⟩ (.string (bs dj[jp]!.key))).setCell ⟨g,(jp+1)*4+1,none⟩ (.string (bs dj[jp]!.value))).setCell ⟨g,(jp+1)*4+2,none⟩ (.int .u64 (dj[jp]!.seq:Nat))).setCell ⟨g,(jp+1)*4+3,none⟩ (.bool dj[jp]!.gone)=wy at *
      refine hQ1 _ _ rfl (fun h=>absurd h (by decide)) ?_;clear hQ1 Q1 p0 p1 p2 p3 q0 q1 q2 q3 hf;have hgly:=hr1.lt;obtain⟨q0,q1,q2,q3⟩:=hr1.at_ (i:=jp) (by rw[Array.size_setIfInBounds];omega);have hf:=hr1.frz;replace hr1:=Lib.hid hr1;replace hk1:=Lib.hid hk1;refine wpTail_step ?_;intro Q1 hQ1
      go_wp2_with (fail)
      refine hQ1 _ _ rfl (fun h=>absurd h (by decide)) ?_;clear hQ1 Q1;refine wpTail_step ?_;intro Q1 hQ1;go_wp2_with fail
      have hr2:=hr1.out.lay (jp) dj[jp+1]!;have hk2:KeptBut w (lay4 wy g (jp) dj[jp+1]!) (fun k=>k=g):=hk1.out.lay4 rfl;unfold lay4 at hr2 hk2
      generalize (((wy.setCell ⟨g,(jp)*4,none⟩ (.string (bs dj[jp+1]!.key))).setCell ⟨g,(jp)*4+1,none⟩ (.string (bs dj[jp+1]!.value))).setCell ⟨g,(jp)*4+2,none⟩ (.int .u64 (dj[jp+1]!.seq:Nat))).setCell ⟨g,(jp)*4+3,none⟩ (.bool dj[jp+1]!.gone)=wz at *
      refine hQ1 _ _ rfl (fun h=>absurd h (by decide)) ?_;clear hQ1 Q1 q0 q1 q2 q3 hf;refine wpTail_nil ?_;refine hQ0 _ _ ?_;clear hQ0 Q0;replace hr2:=Lib.hid hr2;replace hk2:=Lib.hid hk2;go_wp2_with fail
      exact⟨⟨jp,swp dj (jp+1) jp,by omega,by omega,by go_num,hr2.out,by rw[swp_size];exact hdj,by rw[←insInner_go ltE a jp dj (by omega) (by unfold ltE;simpa using hlv)];exact heqj.out,hk2.out⟩,by simp[intOf]⟩
     ·go_wp2_with fail
      have hxc:=@Ext.cell;refine wp_region_ext (by kernel_rfl) (by kernel_rfl) ?_
      repeat (go_big_quiet_step ((first | (go_at_call 66;exact Calls.ext ((hcmp.out _ dj[jp+1]! dj[jp]!))))))
      refine wpQuiet_nil ?_;clear hxc;intro wx hwx;obtain⟨x,hx⟩:=hwx;have hb:=x.below;rw[←hx] at hb;clear hx x;have hr':=Lib.hid (hr.out.below hb hgl);have hkp':=Lib.hid (hkp.out.trans (KeptBut.of_below hb) (fun _ _ h=>h));clear p0 p1 p2 p3 q0 q1 q2 q3 hr hkp hb hgl;have hst:insInner ltE a (jp+1) dj=dj:=insInner_st _ _ _ _ (.inr (by rw[Nat.add_sub_cancel];unfold ltE;simpa using hlv))
      have hnx:insOuter ltE a b (i+1) dj=res:=by rw[←heq.out,←heqj.out,hst]
      replace hnx:=Lib.hid hnx;replace hst:=Lib.hid hst;go_wp2_with fail
      exact⟨⟨i+1,dj,by omega,by omega,by go_num,hr'.out,hdj,hnx.out,hkp'.out⟩,by simp[intOf];omega⟩
    ·have hja':¬(a:Int)<j:=by omega
     have hst:insInner ltE a j dj=dj:=insInner_st _ _ _ _ (.inl (by omega))
     have hnx:insOuter ltE a b (i+1) dj=res:=by rw[←heq.out,←heqj,hst]
     replace hnx:=Lib.hid hnx;replace hst:=Lib.hid hst;replace heqj:=Lib.hid heqj;replace hkp:=Lib.hid hkp;replace hr:=Lib.hid hr;go_wp2_with fail
     have hxc:=@Ext.cell;refine wp_region_ext (by kernel_rfl) (by kernel_rfl) ?_
     repeat (go_big_quiet_step ((first | fail)))
     refine wpQuiet_nil ?_;clear hxc;intro wx hwx;obtain⟨x,hx⟩:=hwx;have hb:=x.below;rw[←hx] at hb;clear hx x;have hr':=Lib.hid (hr.out.below hb hgl);have hkp':=Lib.hid (hkp.out.trans (KeptBut.of_below hb) (fun _ _ h=>h));go_wp2_with fail
     exact⟨⟨i+1,dj,by omega,by omega,by go_num,hr'.out,hdj,hnx.out,hkp'.out⟩,by simp[intOf];omega⟩
  ·have hlt':¬(i:Int)<b:=by omega
   rw[insOuter_end _ _ _ _ _ hlt] at heq;subst heq;go_wp2_with fail
   go_end0
   exact⟨rfl,hr,hkp⟩
theorem srch_go {p:Nat→Bool}{i j:Nat}(h:i<j)(hp:p ((i+j) / 2)=true):srch p i j=srch p ((i+j) / 2+1) j:=by
 conv=>lhs;rw[srch]
 rw[dif_pos h,if_pos hp]
theorem srch_back {p:Nat→Bool}{i j:Nat}(h:i<j)(hp:p ((i+j) / 2)=false):srch p i j=srch p i ((i+j) / 2):=by
 conv=>lhs;rw[srch]
 rw[dif_pos h,if_neg (by rw[hp];decide)]
theorem srch_end {p:Nat→Bool}{i j:Nat}(h:¬i<j):srch p i j=i:=by
 rw[srch,dif_neg h]
set_option maxRecDepth 100000 in
set_option maxHeartbeats 8000000 in
theorem Sym_one {w:World}{g cap:Nat}{d:Array Ent}(h:SRow w g cap d)(a m b:Nat)(ham:m=a+1)(hmb:m<b)(hbn:b≤d.size)(hsz:d.size≤1000000) :
  Calls Tryz.prog 176 #[.slice (some ⟨g,0,none⟩) d.size cap,.int .i64 (a:Nat),.int .i64 (m:Nat),.int .i64 (b:Nat),.func (.func 66) #[] #[]] w fun e w'=>e=.returned (.tuple #[])∧SRow w' g cap (upG a (srch (fun h=>ltE d[h]! d[a]!) m b-1-a) d)∧KeptBut w w' (fun k=>k=g):=by
 obtain⟨N,hN⟩:∃N,d.size=N:=⟨_,rfl⟩;have hcmp:=Lib.hid (fun (W:World) (x y:Ent)=>order_x x y W);obtain⟨S,hS⟩:∃S,srch (fun h=>ltE d[h]! d[a]!) m b=S:=⟨_,rfl⟩;have hsp:=srch_spec (fun h=>ltE d[h]! d[a]!) _ m b rfl (by omega);rw[hS] at hsp ⊢;obtain⟨s1,s2,_,_⟩:=hsp;rw[hN];rw[hN] at hbn hsz
 have e1:(m:Int)-a=1:=by omega
 have hma:a<m:=by omega
 replace ham:=Lib.hid ham
 go_enter Tryz.func176,Tryz.ntmps176
 go_wp2_with fail
 go_loopw [10,11,12] (fun iv jv _ wr=>∃(i j:Nat),i≤j∧m≤i∧j≤b∧iv=.int .i64 (i:Nat)∧jv=.int .i64 (j:Nat)∧SRow wr g cap d∧srch (fun h=>ltE d[h]! d[a]!) i j=S∧KeptBut w wr (fun k=>k=g)) (fun iv jv _ _=>(intOf jv).toNat-(intOf iv).toNat)
 case atStart=>exact⟨m,b,by omega,Nat.le_refl _,Nat.le_refl _,rfl,rfl,h,hS,KeptBut.refl _ _⟩
 case round =>
  obtain⟨i,j,hij,hmi,hjb,rfl,rfl,hr,heq,hkp⟩:=hrel;have hgl:=hr.lt
  by_cases hlt:i<j
  ·have hlt':(i:Int)<j:=by omega
   obtain⟨hh,hhe⟩:∃hh,(i+j) / 2=hh:=⟨_,rfl⟩
   have eh:((i:Int)+j) / 2=(hh:Nat):=by omega
   have hi1:(hh:Int)<N:=by omega
   have hi2:(a:Int)<N:=by omega
   obtain⟨p0,p1,p2,p3⟩:=hr.at_ (i:=hh) (by omega);obtain⟨q0,q1,q2,q3⟩:=hr.at_ (i:=a) (by omega);replace hkp:=Lib.hid hkp;replace hr:=Lib.hid hr
   by_cases hlv:ordE d[hh]! d[a]!<0
   ·have hnx:=srch_go (p:=fun h=>ltE d[h]! d[a]!) hlt (by rw[hhe];unfold ltE;simpa using hlv);rw[heq,hhe] at hnx;replace hnx:=Lib.hid hnx;replace heq:=Lib.hid heq;replace hhe:=Lib.hid hhe;go_wp2_with fail
    have hxc:=@Ext.cell;refine wp_region_ext (by kernel_rfl) (by kernel_rfl) ?_
    repeat (go_big_quiet_step ((first | (go_at_call 66;exact Calls.ext ((hcmp.out _ d[hh]! d[a]!))))))
    refine wpQuiet_nil ?_;clear hxc;intro wx hwx;obtain⟨x,hx⟩:=hwx;have hb:=x.below;rw[←hx] at hb;clear hx x;have hr':=Lib.hid (hr.out.below hb hgl);have hkp':=Lib.hid (hkp.out.trans (KeptBut.of_below hb) (fun _ _ h=>h));have hhe':=hhe.out;go_wp2_with fail
    exact⟨⟨hh+1,j,by omega,by omega,by omega,by go_num,rfl,hr'.out,hnx.out.symm,hkp'.out⟩,by simp[intOf];omega⟩
   ·have hnx:=srch_back (p:=fun h=>ltE d[h]! d[a]!) hlt (by rw[hhe];unfold ltE;simpa using hlv);rw[heq,hhe] at hnx;replace hnx:=Lib.hid hnx;replace heq:=Lib.hid heq;replace hhe:=Lib.hid hhe;go_wp2_with fail
    have hxc:=@Ext.cell;refine wp_region_ext (by kernel_rfl) (by kernel_rfl) ?_
    repeat (go_big_quiet_step ((first | (go_at_call 66;exact Calls.ext ((hcmp.out _ d[hh]! d[a]!))))))
    refine wpQuiet_nil ?_;clear hxc;intro wx hwx;obtain⟨x,hx⟩:=hwx;have hb:=x.below;rw[←hx] at hb;clear hx x;have hr':=Lib.hid (hr.out.below hb hgl);have hkp':=Lib.hid (hkp.out.trans (KeptBut.of_below hb) (fun _ _ h=>h));have hhe':=hhe.out;go_wp2_with fail
    go_roundw
    case rel=>exact⟨i,hh,by omega,by omega,by omega,rfl,rfl,hr'.out,hnx.out.symm,hkp'.out⟩
    case measure=>simp[intOf];omega
  ·have hlt':¬(i:Int)<j:=by omega
   rw[srch_end hlt] at heq;subst heq;obtain⟨res,hres⟩:∃res,upG a (i-1-a) d=res:=⟨_,rfl⟩
   have e7:(i:Int)-1=(i-1:Nat):=by omega
   replace hr:=Lib.hid hr;replace hkp:=Lib.hid hkp;go_wp2_with fail
   go_loopw [13] (fun kv ws=>∃(k:Nat) (dk:Array Ent),a≤k∧k≤i-1∧kv=.int .i64 (k:Nat)∧SRow ws g cap dk∧dk.size=N∧upG k (i-1-k) dk=res∧KeptBut w ws (fun k=>k=g)) (fun kv _=>i-(intOf kv).toNat)
   case atStart=>exact⟨a,d,Nat.le_refl _,by omega,rfl,hr.out,hN,hres,hkp.out⟩
   case round =>
    clear hr hkp;obtain⟨k,dk,hak,hki,rfl,hr,hdk,heqk,hkp⟩:=hrel
    by_cases hk:k<i-1
    ·have hk':(k:Int)<(i-1:Nat):=by omega
     have k1:(k:Int)<N:=by omega
     have k2:(k:Int)+1<N:=by omega
     have k3:((k:Int)+1).toNat=k+1:=by omega
     rw[show i-1-k=(i-1-(k+1))+1 by omega,upG] at heqk;replace heqk:=Lib.hid heqk;replace hr:=Lib.hid hr;replace hkp:=Lib.hid hkp;obtain⟨p0,p1,p2,p3⟩:=hr.out.at_ (i:=k) (by omega);obtain⟨q0,q1,q2,q3⟩:=hr.out.at_ (i:=k+1) (by omega);have hf:=hr.out.frz;have hgl:=hr.out.lt;go_wp2_with fail
     have hxc:=@Ext.cell;have hxf:=@Ext.frozen;refine wp_hide (fun Q0 hQ0=>?_);refine wp_region_line (fun w'=>∃x:Ext _,w'=x.w) [some false,some false,some true,some true,some true,some false,some false,some false,some false,some false,some false,some false,some false,some false,some false,none,none,none] 0 (by kernel_rfl) (by kernel_rfl) ⟨⟨_,(Below.refl _ _).drew⟩,rfl⟩ ?_;simp only[earlyL,tailL]
     repeat (first | ((with_reducible refine wpMix_p ?_);go_big_quiet_step (fail);refine wpQuiet_nil ?_) | ((with_reducible refine wpMix_e ?_);go_big_quiet_step ((first | fail));refine wpQuiet_nil ?_))
     refine wpMix_nil ?_;clear hxc hxf;intro wx hwx;obtain⟨x,hx⟩:=hwx;have hb:=x.below;rw[←hx] at hb;clear hx x;clear p0 p1 p2 p3 q0 q1 q2 q3 hf;have hrx:=hr.out.below hb hgl;have hglx:=hrx.lt;obtain⟨p0,p1,p2,p3⟩:=hrx.at_ (i:=k) (by omega);obtain⟨q0,q1,q2,q3⟩:=hrx.at_ (i:=k+1) (by omega);have hf:=hrx.frz;replace hrx:=Lib.hid hrx;replace hb:=Lib.hid hb;refine wpTail_step ?_;intro Q1 hQ1;go_wp2_with fail
     have hr1:=hrx.out.lay (k) dk[k+1]!;have hk1:KeptBut w (lay4 wx g (k) dk[k+1]!) (fun k=>k=g):=(hkp.out.trans (KeptBut.of_below hb.out) (fun _ _ h=>h)).lay4 rfl;unfold lay4 at hr1 hk1
     generalize (((wx.setCell ⟨g,(k)*4,none⟩ (.string (bs dk[k+1]!.key))).setCell ⟨g,(k)*4+1,none⟩ (.string (bs dk[k+1]!.value))).setCell ⟨g,(k)*4+2,none⟩ (.int .u64 (dk[k+1]!.seq:Nat))).setCell ⟨g,(k)*4+3,none⟩ (.bool dk[k+1]!.gone)=wy at *
     refine hQ1 _ _ rfl (fun h=>absurd h (by decide)) ?_;clear hQ1 Q1 p0 p1 p2 p3 q0 q1 q2 q3 hf;have hgly:=hr1.lt;obtain⟨q0,q1,q2,q3⟩:=hr1.at_ (i:=k+1) (by rw[Array.size_setIfInBounds];omega);have hf:=hr1.frz;replace hr1:=Lib.hid hr1;replace hk1:=Lib.hid hk1;refine wpTail_step ?_;intro Q1 hQ1
     go_wp2_with (fail)
     refine hQ1 _ _ rfl (fun h=>absurd h (by decide)) ?_;clear hQ1 Q1;refine wpTail_step ?_;intro Q1 hQ1;go_wp2_with fail
     have hr2:=hr1.out.lay (k+1) dk[k]!;have hk2:KeptBut w (lay4 wy g (k+1) dk[k]!) (fun k=>k=g):=hk1.out.lay4 rfl;unfold lay4 at hr2 hk2
     generalize (((wy.setCell ⟨g,(k+1)*4,none⟩ (.string (bs dk[k]!.key))).setCell ⟨g,(k+1)*4+1,none⟩ (.string (bs dk[k]!.value))).setCell ⟨g,(k+1)*4+2,none⟩ (.int .u64 (dk[k]!.seq:Nat))).setCell ⟨g,(k+1)*4+3,none⟩ (.bool dk[k]!.gone)=wz at *
     refine hQ1 _ _ rfl (fun h=>absurd h (by decide)) ?_;clear hQ1 Q1 q0 q1 q2 q3 hf;refine wpTail_nil ?_;refine hQ0 _ _ ?_;clear hQ0 Q0;replace hr2:=Lib.hid hr2;replace hk2:=Lib.hid hk2;go_wp2_with fail
     exact⟨⟨k+1,swp dk k (k+1),by omega,by omega,by go_num,hr2.out,by rw[swp_size];exact hdk,heqk.out,hk2.out⟩,by simp[intOf];omega⟩
    ·have hk':¬(k:Int)<(i-1:Nat):=by omega
     rw[show i-1-k=0 by omega,upG] at heqk;rw[heqk] at hr;go_wp2_with fail
     refine bodyPost_ret (results_none (by kernel_rfl) _ _ _) rfl ?_;exact⟨rfl,hr,hkp⟩
set_option maxRecDepth 100000 in
set_option maxHeartbeats 8000000 in
theorem Sym_last {w:World}{g cap:Nat}{d:Array Ent}(h:SRow w g cap d)(a m b:Nat)(ham:a+1<m)(hmb:b=m+1)(hbn:b≤d.size)(hsz:d.size≤1000000) :
  Calls Tryz.prog 176 #[.slice (some ⟨g,0,none⟩) d.size cap,.int .i64 (a:Nat),.int .i64 (m:Nat),.int .i64 (b:Nat),.func (.func 66) #[] #[]] w fun e w'=>e=.returned (.tuple #[])∧SRow w' g cap (dnG (srch (fun h=>!ltE d[m]! d[h]!) a m) (m-srch (fun h=>!ltE d[m]! d[h]!) a m) d)∧KeptBut w w' (fun k=>k=g):=by
 obtain⟨N,hN⟩:∃N,d.size=N:=⟨_,rfl⟩;have hcmp:=Lib.hid (fun (W:World) (x y:Ent)=>order_x x y W);obtain⟨S,hS⟩:∃S,srch (fun h=>!ltE d[m]! d[h]!) a m=S:=⟨_,rfl⟩;have hsp:=srch_spec (fun h=>!ltE d[m]! d[h]!) _ a m rfl (by omega);rw[hS] at hsp ⊢;obtain⟨s1,s2,_,_⟩:=hsp;rw[hN];rw[hN] at hbn hsz
 have e0:¬(m:Int)-a=1:=by omega
 have e1:(b:Int)-m=1:=by omega
 have hbm:m<b:=by omega
 obtain⟨D,hD⟩:∃D:Int,(m:Int)-a=D:=⟨_,rfl⟩
 have hD1:¬D=1:=by omega
 have hD2:(D==1)=false:=by simpa using hD1
 replace hmb:=Lib.hid hmb
 go_enter Tryz.func176,Tryz.ntmps176
 go_wp2_with fail
 go_loopw [14,15,16] (fun iv jv _ wr=>∃(i j:Nat),i≤j∧a≤i∧j≤m∧iv=.int .i64 (i:Nat)∧jv=.int .i64 (j:Nat)∧SRow wr g cap d∧srch (fun h=>!ltE d[m]! d[h]!) i j=S∧KeptBut w wr (fun k=>k=g)) (fun iv jv _ _=>(intOf jv).toNat-(intOf iv).toNat)
 case atStart=>exact⟨a,m,by omega,Nat.le_refl _,Nat.le_refl _,rfl,rfl,h,hS,KeptBut.refl _ _⟩
 case round =>
  obtain⟨i,j,hij,hmi,hjb,rfl,rfl,hr,heq,hkp⟩:=hrel;have hgl:=hr.lt
  by_cases hlt:i<j
  ·have hlt':(i:Int)<j:=by omega
   obtain⟨hh,hhe⟩:∃hh,(i+j) / 2=hh:=⟨_,rfl⟩
   have eh:((i:Int)+j) / 2=(hh:Nat):=by omega
   have hi1:(hh:Int)<N:=by omega
   have hi2:(m:Int)<N:=by omega
   obtain⟨p0,p1,p2,p3⟩:=hr.at_ (i:=hh) (by omega);obtain⟨q0,q1,q2,q3⟩:=hr.at_ (i:=m) (by omega);replace hkp:=Lib.hid hkp;replace hr:=Lib.hid hr
   by_cases hlv:ordE d[m]! d[hh]!<0
   ·have hnx:=srch_back (p:=fun h=>!ltE d[m]! d[h]!) hlt (by rw[hhe];unfold ltE;simpa using hlv);rw[heq,hhe] at hnx;replace hnx:=Lib.hid hnx;replace heq:=Lib.hid heq;replace hhe:=Lib.hid hhe;go_wp2_with fail
    have hxc:=@Ext.cell;refine wp_region_ext (by kernel_rfl) (by kernel_rfl) ?_
    repeat (go_big_quiet_step ((first | (go_at_call 66;exact Calls.ext ((hcmp.out _ d[m]! d[hh]!))))))
    refine wpQuiet_nil ?_;clear hxc;intro wx hwx;obtain⟨x,hx⟩:=hwx;have hb:=x.below;rw[←hx] at hb;clear hx x;have hr':=Lib.hid (hr.out.below hb hgl);have hkp':=Lib.hid (hkp.out.trans (KeptBut.of_below hb) (fun _ _ h=>h));have hhe':=hhe.out;go_wp2_with fail
    exact⟨⟨i,hh,by omega,by omega,by omega,rfl,rfl,hr'.out,hnx.out.symm,hkp'.out⟩,by simp[intOf];omega⟩
   ·have hnx:=srch_go (p:=fun h=>!ltE d[m]! d[h]!) hlt (by rw[hhe];unfold ltE;simpa using hlv);rw[heq,hhe] at hnx
    have hld:decide (ordE d[m]! d[hh]!<0)=false:=by simpa using hlv
    have hld2:(!decide (ordE d[m]! d[hh]!<0))=true:=by rw[hld];rfl
    replace hnx:=Lib.hid hnx;replace heq:=Lib.hid heq;replace hhe:=Lib.hid hhe;go_wp2_with fail
    have hxc:=@Ext.cell;refine wp_region_ext (by kernel_rfl) (by kernel_rfl) ?_
    repeat (go_big_quiet_step ((first | (go_at_call 66;exact Calls.ext ((hcmp.out _ d[m]! d[hh]!))))))
    refine wpQuiet_nil ?_;clear hxc;intro wx hwx;obtain⟨x,hx⟩:=hwx;have hb:=x.below;rw[←hx] at hb;clear hx x;have hr':=Lib.hid (hr.out.below hb hgl);have hkp':=Lib.hid (hkp.out.trans (KeptBut.of_below hb) (fun _ _ h=>h));have hhe':=hhe.out;go_wp2_with fail
    exact⟨⟨hh+1,j,by omega,by omega,by omega,by go_num,rfl,hr'.out,hnx.out.symm,hkp'.out⟩,by simp[intOf];omega⟩
  ·have hlt':¬(i:Int)<j:=by omega
   rw[srch_end hlt] at heq;subst heq;obtain⟨res,hres⟩:∃res,dnG i (m-i) d=res:=⟨_,rfl⟩;replace hr:=Lib.hid hr;replace hkp:=Lib.hid hkp;go_wp2_with fail
   go_loopw [17] (fun kv ws=>∃(k:Nat) (dk:Array Ent),i≤k∧k≤m∧kv=.int .i64 (k:Nat)∧SRow ws g cap dk∧dk.size=N∧dnG i (k-i) dk=res∧KeptBut w ws (fun k=>k=g)) (fun kv _=>(intOf kv).toNat)
   case atStart=>exact⟨m,d,by omega,Nat.le_refl _,rfl,hr.out,hN,hres,hkp.out⟩
   case round =>
    clear hr hkp;obtain⟨k,dk,hak,hki,rfl,hr,hdk,heqk,hkp⟩:=hrel
    by_cases hk:i<k
    ·obtain⟨kp,rfl⟩:∃kp,k=kp+1:=⟨k-1,by omega⟩
     have hk':(i:Int)<(kp:Int)+1:=by omega
     have k1:(kp:Int)<N:=by omega
     have k2:(kp:Int)+1<N:=by omega
     have k3:((kp:Int)+1).toNat=kp+1:=by omega
     have k4:(kp:Int)+1-1=kp:=by omega
     rw[show kp+1-i=(kp-i)+1 by omega,dnG,show i+(kp-i)+1=kp+1 by omega,show i+(kp-i)=kp by omega] at heqk;replace heqk:=Lib.hid heqk;replace hr:=Lib.hid hr;replace hkp:=Lib.hid hkp;obtain⟨p0,p1,p2,p3⟩:=hr.out.at_ (i:=kp+1) (by omega);obtain⟨q0,q1,q2,q3⟩:=hr.out.at_ (i:=kp) (by omega);have hf:=hr.out.frz;have hgl:=hr.out.lt;go_wp2_with fail
     have hxc:=@Ext.cell;have hxf:=@Ext.frozen;refine wp_hide (fun Q0 hQ0=>?_);refine wp_region_line (fun w'=>∃x:Ext _,w'=x.w) [some false,some false,some true,some true,some true,some false,some false,some false,some false,some false,some false,some false,some false,some false,some false,none,none,none] 0 (by kernel_rfl) (by kernel_rfl) ⟨⟨_,(Below.refl _ _).drew⟩,rfl⟩ ?_;simp only[earlyL,tailL]
     repeat (first | ((with_reducible refine wpMix_p ?_);go_big_quiet_step (fail);refine wpQuiet_nil ?_) | ((with_reducible refine wpMix_e ?_);go_big_quiet_step ((first | fail));refine wpQuiet_nil ?_))
     refine wpMix_nil ?_;clear hxc hxf;intro wx hwx;obtain⟨x,hx⟩:=hwx;have hb:=x.below;rw[←hx] at hb;clear hx x;clear p0 p1 p2 p3 q0 q1 q2 q3 hf;have hrx:=hr.out.below hb hgl;have hglx:=hrx.lt;obtain⟨p0,p1,p2,p3⟩:=hrx.at_ (i:=kp+1) (by omega);obtain⟨q0,q1,q2,q3⟩:=hrx.at_ (i:=kp) (by omega);have hf:=hrx.frz;replace hrx:=Lib.hid hrx;replace hb:=Lib.hid hb;refine wpTail_step ?_;intro Q1 hQ1;go_wp2_with fail
     have hr1:=hrx.out.lay (kp+1) dk[kp]!;have hk1:KeptBut w (lay4 wx g (kp+1) dk[kp]!) (fun k=>k=g):=(hkp.out.trans (KeptBut.of_below hb.out) (fun _ _ h=>h)).lay4 rfl;unfold lay4 at hr1 hk1
     generalize (((wx.setCell ⟨g,(kp+1)*4,none⟩ (.string (bs dk[kp]!.key))).setCell ⟨g,(kp+1)*4+1,none⟩ (.string (bs dk[kp]!.value))).setCell ⟨g,(kp+1)*4+2,none⟩ (.int .u64 (dk[kp]!.seq:Nat))).setCell ⟨g,(kp+1)*4+3,none⟩ (.bool dk[kp]!.gone)=wy at *
     refine hQ1 _ _ rfl (fun h=>absurd h (by decide)) ?_;clear hQ1 Q1 p0 p1 p2 p3 q0 q1 q2 q3 hf;have hgly:=hr1.lt;obtain⟨q0,q1,q2,q3⟩:=hr1.at_ (i:=kp) (by rw[Array.size_setIfInBounds];omega);have hf:=hr1.frz;replace hr1:=Lib.hid hr1;replace hk1:=Lib.hid hk1;refine wpTail_step ?_;intro Q1 hQ1
     go_wp2_with (fail)
     refine hQ1 _ _ rfl (fun h=>absurd h (by decide)) ?_;clear hQ1 Q1;refine wpTail_step ?_;intro Q1 hQ1;go_wp2_with fail
     have hr2:=hr1.out.lay (kp) dk[kp+1]!;have hk2:KeptBut w (lay4 wy g (kp) dk[kp+1]!) (fun k=>k=g):=hk1.out.lay4 rfl;unfold lay4 at hr2 hk2
     generalize (((wy.setCell ⟨g,(kp)*4,none⟩ (.string (bs dk[kp+1]!.key))).setCell ⟨g,(kp)*4+1,none⟩ (.string (bs dk[kp+1]!.value))).setCell ⟨g,(kp)*4+2,none⟩ (.int .u64 (dk[kp+1]!.seq:Nat))).setCell ⟨g,(kp)*4+3,none⟩ (.bool dk[kp+1]!.gone)=wz at *
     refine hQ1 _ _ rfl (fun h=>absurd h (by decide)) ?_;clear hQ1 Q1 q0 q1 q2 q3 hf;refine wpTail_nil ?_;refine hQ0 _ _ ?_;clear hQ0 Q0;replace hr2:=Lib.hid hr2;replace hk2:=Lib.hid hk2;go_wp2_with fail
     exact⟨⟨kp,swp dk (kp+1) kp,by omega,by omega,by go_num,hr2.out,by rw[swp_size];exact hdk,heqk.out,hk2.out⟩,by simp[intOf]⟩
    ·have hk':¬(i:Int)<k:=by omega
     rw[show k-i=0 by omega,dnG] at heqk;rw[heqk] at hr;go_wp2_with fail
     refine bodyPost_ret (results_none (by kernel_rfl) _ _ _) rfl ?_;exact⟨rfl,hr,hkp⟩
end Go.Proofs.YtlpojfgeocpkeaaGreatDoor
