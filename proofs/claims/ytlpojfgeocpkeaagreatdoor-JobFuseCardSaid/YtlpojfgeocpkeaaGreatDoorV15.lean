/- Contracts: swapRange, rotate at entries. Contracts: merge.order. Contracts: insertionSort at entries. Contracts: symMerge at entries: one element ahead of a row. Contracts: symMerge at entries: one element behind a row. -/
import Derived.Test.YtlpojfgeocpkeaaGreatDoorV14
namespace Go.Proofs.YtlpojfgeocpkeaaGreatDoor
open Go.RowKit Go.Sort
set_option linter.unusedVariables false
set_option linter.unusedSimpArgs false
set_option maxRecDepth 100000 in
set_option maxHeartbeats 4000000 in
theorem SwapR_any {w:World}{g cap:Nat}{d:Array Ent}(h:SRow w g cap d)(a b n:Nat)(F:Value)(hab:a+n≤b)(hbn:b+n≤d.size)(hsz:d.size≤1000000) :
  Calls Tryz.prog 194 #[.slice (some ⟨g,0,none⟩) d.size cap,.int .i64 (a:Nat),.int .i64 (b:Nat),.int .i64 (n:Nat),F] w fun e w'=>e=.returned (.tuple #[])∧SRow w' g cap (swapR a b 0 n d)∧KeptBut w w' (fun k=>k=g):=by
 obtain⟨N,hN⟩:∃N,d.size=N:=⟨_,rfl⟩;rw[hN]
 go_enter Tryz.func194,Tryz.ntmps194
 go_wp2_with fail
 go_loopw [10] (fun iv wr=>∃(i:Nat) (dk:Array Ent),i≤n∧iv=.int .i64 (i:Nat)∧SRow wr g cap dk∧dk.size=N∧swapR a b i (n-i) dk=swapR a b 0 n d∧KeptBut w wr (fun k=>k=g)) (fun iv _=>n-(intOf iv).toNat)
 case atStart=>exact⟨0,d,Nat.zero_le _,rfl,h,hN,rfl,KeptBut.refl _ _⟩
 case round =>
  obtain⟨i,dk,hi,rfl,hr,hdk,heq,hkp⟩:=hrel
  by_cases hlt:i<n
  ·have hlt':(i:Int)<n:=by omega
   obtain⟨p0,p1,p2,p3⟩:=hr.at_ (i:=a+i) (by omega);obtain⟨q0,q1,q2,q3⟩:=hr.at_ (i:=b+i) (by omega);have hf:=hr.frz;have hgl:=hr.lt;replace heq:=Lib.hid heq;replace hkp:=Lib.hid hkp;replace hr:=Lib.hid hr
   have i1:(a:Int)+i<N:=by omega
   have i2:(b:Int)+i<N:=by omega
   have i3:((a:Int)+i).toNat=a+i:=by omega
   have i4:((b:Int)+i).toNat=b+i:=by omega
   go_wp2_with fail
   have hxc:=@Ext.cell;have hxf:=@Ext.frozen;refine wp_hide (fun Q0 hQ0=>?_);refine wp_region_line (fun w'=>∃x:Ext _,w'=x.w) [some false,some false,some false,some false,some true,some true,some true,some true,some false,some false,some false,some false,some false,some false,some false,some false,some false,some false,some false,some false,some false,none,none,none] 0 (by kernel_rfl) (by kernel_rfl) ⟨⟨_,(Below.refl _ _).drew⟩,rfl⟩ ?_;simp only[earlyL,tailL]
   repeat (first | ((with_reducible refine wpMix_p ?_);go_big_quiet_step (fail);refine wpQuiet_nil ?_) | ((with_reducible refine wpMix_e ?_);go_big_quiet_step ((first | fail));refine wpQuiet_nil ?_))
   refine wpMix_nil ?_;clear hxc hxf;intro wx hwx;obtain⟨x,hx⟩:=hwx;have hb:=x.below;rw[←hx] at hb;clear hx x;clear p0 p1 p2 p3 q0 q1 q2 q3 hf;have hrx:=hr.out.below hb hgl;have hglx:=hrx.lt;obtain⟨p0,p1,p2,p3⟩:=hrx.at_ (i:=a+i) (by omega);obtain⟨q0,q1,q2,q3⟩:=hrx.at_ (i:=b+i) (by omega);have hf:=hrx.frz;replace hrx:=Lib.hid hrx;replace hb:=Lib.hid hb;refine wpTail_step ?_;intro Q1 hQ1;go_wp2_with fail
   have hr1:=hrx.out.lay (a+i) dk[b+i]!;have hk1:KeptBut w (lay4 wx g (a+i) dk[b+i]!) (fun k=>k=g):=(hkp.out.trans (KeptBut.of_below hb.out) (fun _ _ h=>h)).lay4 rfl;unfold lay4 at hr1 hk1
   generalize (((wx.setCell ⟨g,(a+i)*4,none⟩ (.string (bs dk[b+i]!.key))).setCell ⟨g,(a+i)*4+1,none⟩ (.string (bs dk[b+i]!.value))).setCell ⟨g,(a+i)*4+2,none⟩ (.int .u64 (dk[b+i]!.seq:Nat))).setCell ⟨g,(a+i)*4+3,none⟩ (.bool dk[b+i]!.gone)=w1 at *
   refine hQ1 _ _ rfl (fun h=>absurd h (by decide)) ?_;clear hQ1 Q1 p0 p1 p2 p3 q0 q1 q2 q3 hf;have hglx:=hr1.lt;obtain⟨q0,q1,q2,q3⟩:=hr1.at_ (i:=b+i) (by rw[Array.size_setIfInBounds];omega);have hf:=hr1.frz;replace hr1:=Lib.hid hr1;replace hk1:=Lib.hid hk1;refine wpTail_step ?_;intro Q1 hQ1
   go_wp2_with (fail)
   refine hQ1 _ _ rfl (fun h=>absurd h (by decide)) ?_;clear hQ1 Q1;refine wpTail_step ?_;intro Q1 hQ1;go_wp2_with fail
   have hr2:=hr1.out.lay (b+i) dk[a+i]!;have hk2:KeptBut w (lay4 w1 g (b+i) dk[a+i]!) (fun k=>k=g):=hk1.out.lay4 rfl;unfold lay4 at hr2 hk2
   generalize (((w1.setCell ⟨g,(b+i)*4,none⟩ (.string (bs dk[a+i]!.key))).setCell ⟨g,(b+i)*4+1,none⟩ (.string (bs dk[a+i]!.value))).setCell ⟨g,(b+i)*4+2,none⟩ (.int .u64 (dk[a+i]!.seq:Nat))).setCell ⟨g,(b+i)*4+3,none⟩ (.bool dk[a+i]!.gone)=w2 at *
   refine hQ1 _ _ rfl (fun h=>absurd h (by decide)) ?_;clear hQ1 Q1 q0 q1 q2 q3 hf;refine wpTail_nil ?_;refine hQ0 _ _ ?_;clear hQ0 Q0;replace hr2:=Lib.hid hr2;replace hk2:=Lib.hid hk2;go_wp2_with fail
   exact⟨⟨i+1,swp dk (a+i) (b+i),by omega,by go_num,hr2.out,by rw[swp_size];exact hdk,by rw[←heq.out,show n-i=(n-(i+1))+1 by omega,swapR],hk2.out⟩,by simp[intOf];omega⟩
  ·obtain rfl:i=n:=by omega
   rw[Nat.sub_self,swapR] at heq;rw[heq] at hr;go_wp2_with fail
   go_end0
   exact⟨rfl,hr,hkp⟩
set_option maxRecDepth 100000 in
set_option maxHeartbeats 4000000 in
theorem Rot_any {w:World}{g cap:Nat}{d:Array Ent}(h:SRow w g cap d)(a m b:Nat)(F:Value)(ham:a<m)(hmb:m<b)(hb:b≤d.size)(hsz:d.size≤1000000) :
  Calls Tryz.prog 189 #[.slice (some ⟨g,0,none⟩) d.size cap,.int .i64 (a:Nat),.int .i64 (m:Nat),.int .i64 (b:Nat),F] w fun e w'=>e=.returned (.tuple #[])∧SRow w' g cap (rotG m (b-a) (m-a) (b-m) d)∧KeptBut w w' (fun k=>k=g):=by
 obtain⟨N,hN⟩:∃N,d.size=N:=⟨_,rfl⟩
 have hsw:=Lib.hid (fun (W:World) (dk:Array Ent) (hr:SRow W g cap dk) (hk:dk.size=N) (x y n:Nat) (h1:x+n≤y) (h2:y+n≤N)=>(by
  have:=SwapR_any hr x y n F h1 (by omega) (by omega);rw[hk] at this
  exact this:Calls Tryz.prog 194 #[.slice (some ⟨g,0,none⟩) N cap,.int .i64 (x:Nat),.int .i64 (y:Nat),.int .i64 (n:Nat),F] W fun e w'=>e=.returned (.tuple #[])∧SRow w' g cap (swapR x y 0 n dk)∧KeptBut W w' (fun k=>k=g)))
 obtain⟨res,hres⟩:∃res,rotG m (b-a) (m-a) (b-m) d=res:=⟨_,rfl⟩
 have e1:(m:Int)-a=(m-a:Nat):=by omega
 have e2:(b:Int)-m=(b-m:Nat):=by omega
 rw[hN,hres]
 go_enter Tryz.func189,Tryz.ntmps189
 go_wp2_with fail
 try rw[e1,e2]
 go_loopw [10,11] (fun iv jv wr=>∃(f i j:Nat) (dk:Array Ent),iv=.int .i64 (i:Nat)∧jv=.int .i64 (j:Nat)∧0<i∧0<j∧i+j≤f∧a+i≤m∧m+j≤b∧SRow wr g cap dk∧dk.size=N∧rotG m f i j dk=res∧KeptBut w wr (fun k=>k=g)) (fun iv jv _=>(intOf iv).toNat+(intOf jv).toNat)
 case atStart=>exact⟨b-a,m-a,b-m,d,rfl,rfl,by omega,by omega,by omega,by omega,by omega,h,hN,hres,KeptBut.refl _ _⟩
 case round =>
  obtain⟨f,i,j,dk,rfl,rfl,hi,hj,hf,hai,hbj,hr,hdk,heq,hkp⟩:=hrel;obtain⟨f,rfl⟩:∃f',f=f'+1:=⟨f-1,by omega⟩;unfold rotG at heq
  have m1:(m:Int)-i=(m-i:Nat):=by omega
  by_cases c1:i=j
  ·subst c1;rw[if_pos rfl] at heq;have hs1:=Lib.hid (hsw.out wr dk hr hdk (m-i) m i (by omega) (by omega));replace heq:=Lib.hid heq;replace hkp:=Lib.hid hkp;replace hr:=Lib.hid hr;go_wp2_with fail
   try rw[m1]
   refine hs1.out.mono ?_;rintro e w1 ⟨rfl,hr1,hk1⟩;rw[heq.out] at hr1;have hkf:=hkp.out.trans hk1 (fun _ _ h=>h);replace hr1:=Lib.hid hr1;replace hkf:=Lib.hid hkf;clear hk1;go_wp2_with fail
   go_end0
   exact⟨rfl,hr1.out,hkf.out⟩
  ·rw[if_neg c1] at heq
   have c1':¬(i:Int)=j:=by omega
   by_cases c2:j<i
   ·rw[if_pos c2] at heq
    have c2':(j:Int)<i:=by omega
    have i4:(i:Int)-j=(i-j:Nat):=by omega
    have hs1:=Lib.hid (hsw.out wr dk hr hdk (m-i) m j (by omega) (by omega));replace heq:=Lib.hid heq;replace hkp:=Lib.hid hkp;replace hr:=Lib.hid hr;go_wp2_with fail
    try rw[m1]
    refine hs1.out.mono ?_;rintro e w1 ⟨rfl,hr1,hk1⟩;have hkf:=hkp.out.trans hk1 (fun _ _ h=>h);replace hr1:=Lib.hid hr1;replace hkf:=Lib.hid hkf;clear hk1;go_wp2_with fail
    exact⟨⟨f,i-j,j,_,by go_num,rfl,by omega,by omega,by omega,by omega,by omega,hr1.out,by rw[swapR_size];exact hdk,heq.out,hkf.out⟩,by simp[intOf];omega⟩
   ·rw[if_neg c2] at heq
    have c2':¬(j:Int)<i:=by omega
    have i4:(j:Int)-i=(j-i:Nat):=by omega
    have m2:(m:Int)+j-i=(m+j-i:Nat):=by omega
    have hs1:=Lib.hid (hsw.out wr dk hr hdk (m-i) (m+j-i) i (by omega) (by omega));replace heq:=Lib.hid heq;replace hkp:=Lib.hid hkp;replace hr:=Lib.hid hr;go_wp2_with fail
    try rw[m1,m2]
    refine hs1.out.mono ?_;rintro e w1 ⟨rfl,hr1,hk1⟩;have hkf:=hkp.out.trans hk1 (fun _ _ h=>h);replace hr1:=Lib.hid hr1;replace hkf:=Lib.hid hkf;clear hk1;go_wp2_with fail
    exact⟨⟨f,i,j-i,_,rfl,by go_num,by omega,by omega,by omega,by omega,by omega,hr1.out,by rw[swapR_size];exact hdk,heq.out,hkf.out⟩,by simp[intOf];omega⟩
def entO (e:Ent):Value:=.agg #[.string (bs e.key),.string (bs e.value),.int .u64 (e.seq:Nat),.bool e.gone]
set_option maxHeartbeats 400000 in
theorem nan_s (x:ByteArray)(w:World):Calls Tryz.prog 139 #[.string x] w fun e w'=>e=.returned (.bool false)∧w=w':=by
 go_enter Tryz.func139,Tryz.ntmps139
 go_wp2
 go_ret
 exact⟨by simp,rfl⟩
set_option maxHeartbeats 400000 in
theorem nan_u (x:Nat)(w:World):Calls Tryz.prog 140 #[.int .u64 (x:Nat)] w fun e w'=>e=.returned (.bool false)∧w=w':=by
 go_enter Tryz.func140,Tryz.ntmps140
 go_wp2
 go_ret
 exact⟨by simp,rfl⟩
def cmpN (x y:Nat):Int:=if x<y then -1 else if y<x then 1 else 0
set_option maxRecDepth 100000 in
set_option maxHeartbeats 1000000 in
theorem cmp_u (x y:Nat)(w:World):Calls Tryz.prog 101 #[.int .u64 (x:Nat),.int .u64 (y:Nat)] w fun e w'=>e=.returned (.int .i64 (cmpN x y))∧w=w':=by
 have h1:=Lib.hid (nan_u x w);have h2:=Lib.hid (nan_u y w);unfold cmpN
 go_enter Tryz.func101,Tryz.ntmps101
 go_wp2_with fail
 refine h1.out.mono ?_;rintro e w1 ⟨rfl,rfl⟩;go_wp2_with fail
 refine h2.out.mono ?_;rintro e w1 ⟨rfl,rfl⟩
 by_cases c1:x<y
 ·have c1':(x:Int)<y:=by omega
  go_wp2_with fail
  go_ret
  exact⟨rfl,rfl⟩
 ·have c1':¬(x:Int)<y:=by omega
  by_cases c2:y<x
  ·have c2':(y:Int)<x:=by omega
   go_wp2_with fail
   go_ret
   exact⟨rfl,rfl⟩
  ·have c2':¬(y:Int)<x:=by omega
   go_wp2_with fail
   go_ret
   exact⟨rfl,rfl⟩
def cmpS (a b:L):Int:=if lessL a b=true then -1 else if a=b then 0 else 1
set_option maxRecDepth 100000 in
set_option maxHeartbeats 1000000 in
theorem cmp_s (a b:L)(w:World):Calls Tryz.prog 100 #[.string (bs a),.string (bs b)] w fun e w'=>e=.returned (.int .i64 (cmpS a b))∧w=w':=by
 have h1:=Lib.hid (nan_s (bs a) w);have h2:=Lib.hid (nan_s (bs b) w);obtain⟨r,hr⟩:∃r,cmpS a b=r:=⟨_,rfl⟩;rw[hr];unfold cmpS at hr;replace hr:=Lib.hid hr
 go_enter Tryz.func100,Tryz.ntmps100
 go_wp2_with fail
 refine h1.out.mono ?_;rintro e w1 ⟨rfl,rfl⟩;go_wp2_with fail
 refine h2.out.mono ?_;rintro e w1 ⟨rfl,rfl⟩;go_wp2_with fail
 ·rename_i q
  have hr:=hr.out;rw[if_pos (by rw[bs_toList,bs_toList] at q;exact q)] at hr;subst hr
  go_ret
  exact⟨rfl,rfl⟩
 ·have q1:=(by assumption:Op.bytesLess (bs a).toList (bs b).toList=false);have q2:=(by assumption:(!(bs a).toList==(bs b).toList)=true);have hr:=hr.out;rw[bs_toList,bs_toList] at q1 q2;rw[if_neg (by show ¬Op.bytesLess a b=true;rw[q1];decide),if_neg (by simpa using q2)] at hr;subst hr
  go_ret
  exact⟨rfl,rfl⟩
 ·have q1:=(by assumption:Op.bytesLess (bs a).toList (bs b).toList=false);have q2:=(by assumption:(!(bs a).toList==(bs b).toList)=false);have hr:=hr.out;rw[bs_toList,bs_toList] at q1 q2;rw[if_neg (by show ¬Op.bytesLess a b=true;rw[q1];decide),if_pos (by simpa using q2)] at hr;subst hr
  go_ret
  exact⟨rfl,rfl⟩
def ordN (a b:Int):Int:=if a≠0 then a else b
set_option maxRecDepth 100000 in
set_option maxHeartbeats 1000000 in
theorem or_any {w:World}{g:Nat}{a b:Int}(h:Blk w g 3 #[.int .i64 a,.int .i64 b]):Calls Tryz.prog 99 #[.slice (some ⟨g,0,none⟩) 2 2] w fun e w'=>e=.returned (.int .i64 (ordN a b))∧w=w':=by
 have c0:w.cell? ⟨g,0,none⟩=some (.int .i64 a):=h.cell 0;have c1:w.cell? ⟨g,1,none⟩=some (.int .i64 b):=h.cell 1;obtain⟨r,hr⟩:∃r,ordN a b=r:=⟨_,rfl⟩;rw[hr];unfold ordN at hr
 go_enter Tryz.func99,Tryz.ntmps99
 go_wp2_with fail
 go_loopw [8] (fun iv wr=>w=wr∧(iv=.int .i64 0∨(iv=.int .i64 1∧a=0)∨(iv=.int .i64 2∧a=0∧b=0))) (fun iv _=>2-(intOf iv).toNat)
 case atStart=>exact⟨by trivial,.inl rfl⟩
 case round =>
  obtain⟨rfl,rfl | ⟨rfl,h0⟩ | ⟨rfl,h0,h1⟩⟩:=hrel
  ·by_cases ha:a=0
   ·go_wp2_with fail
    exact⟨⟨by trivial,.inr (.inl ⟨by trivial,ha⟩)⟩,by simp[intOf]⟩
   ·rw[if_pos ha] at hr;subst hr;go_wp2_with fail
    go_ret
    exact⟨rfl,rfl⟩
  ·subst h0;rw[if_neg (by simp)] at hr;subst hr
   by_cases hb:b=0
   ·go_wp2_with fail
    exact⟨⟨by trivial,.inr (.inr ⟨by trivial,by trivial,hb⟩)⟩,by simp[intOf]⟩
   ·go_wp2_with fail
    go_ret
    exact⟨rfl,rfl⟩
  ·subst h0 h1;rw[if_neg (by simp)] at hr;subst hr;go_wp2_with fail
   go_ret
   exact⟨rfl,rfl⟩
def ordE (a b:Ent):Int:=ordN (cmpS a.key b.key) (cmpN b.seq a.seq)
set_option maxRecDepth 100000 in
set_option maxHeartbeats 2000000 in
theorem order_any (a b:Ent)(w:World):Calls Tryz.prog 66 #[entO a,entO b] w fun e w'=>e=.returned (.int .i64 (ordE a b))∧Below w.heap.size w w':=by
 unfold entO;have hcs:=fun W=>Lib.hid (cmp_s a.key b.key W);have hcn:=fun W=>Lib.hid (cmp_u b.seq a.seq W)
 go_enter Tryz.func66,Tryz.ntmps66
 go_wp2_with fail
 obtain⟨w0,hw0⟩:∃w0,w0=(w.alloc (.cells #[.string (bs a.key),.string (bs a.value),.int .u64 (a.seq:Nat),.bool a.gone] 46)).alloc (.cells #[.string (bs b.key),.string (bs b.value),.int .u64 (b.seq:Nat),.bool b.gone] 46):=⟨_,rfl⟩
 have hb0:Below w.heap.size w w0:=by rw[hw0];exact ((Below.refl _ _).alloc (Nat.le_refl _) _).alloc (by simp) _
 have hA:Blk w0 w.heap.size 46 #[.string (bs a.key),.string (bs a.value),.int .u64 (a.seq:Nat),.bool a.gone]:=by rw[hw0];exact (Blk.new w _ _).alloc _
 have hB:Blk w0 (w.heap.size+1) 46 #[.string (bs b.key),.string (bs b.value),.int .u64 (b.seq:Nat),.bool b.gone]:=by
  rw[hw0];have:=Blk.new (w.alloc (.cells #[.string (bs a.key),.string (bs a.value),.int .u64 (a.seq:Nat),.bool a.gone] 46)) 46 #[.string (bs b.key),.string (bs b.value),.int .u64 (b.seq:Nat),.bool b.gone]
  rwa [World.size_alloc] at this
 rw[←hw0];have c0:w0.cell? ⟨w.heap.size,0,none⟩=some (.string (bs a.key)):=hA.cell 0;have c2:w0.cell? ⟨w.heap.size,2,none⟩=some (.int .u64 (a.seq:Nat)):=hA.cell 2;have d0:w0.cell? ⟨w.heap.size+1,0,none⟩=some (.string (bs b.key)):=hB.cell 0;have d2:w0.cell? ⟨w.heap.size+1,2,none⟩=some (.int .u64 (b.seq:Nat)):=hB.cell 2;have la:=hA.lt;have lb:=hB.lt;replace hA:=Lib.hid hA;replace hB:=Lib.hid hB;replace hw0:=Lib.hid hw0;replace hb0:=Lib.hid hb0;have hxc:=@Ext.cell;have hxf:=@Ext.frozen;refine wp_hide (fun Q0 hQ0=>?_);refine wp_region_line (fun w'=>∃x:Ext _,w'=x.w) [some false,some false,some false,some false,some false,some false,some false,some false,some false,some false,none,none,none] 1 (by kernel_rfl) (by kernel_rfl) ⟨⟨_,(Below.refl _ _).drew⟩,rfl⟩ ?_;simp only[earlyL,tailL]
 repeat (first | ((with_reducible refine wpMix_p ?_);go_big_quiet_step (fail);refine wpQuiet_nil ?_) | ((with_reducible refine wpMix_e ?_);go_big_quiet_step ((first | (go_at_call 100;exact Calls.ext_same ((cmp_s a.key b.key _))) | (go_at_call 101;exact Calls.ext_same ((cmp_u b.seq a.seq _)))));refine wpQuiet_nil ?_))
 refine wpMix_nil ?_;clear hxc hxf;intro wx hwx;obtain⟨x,hx⟩:=hwx;have hb:=x.below;rw[←hx] at hb;clear hx x;have hbz:=hb.size;have hfin:=Lib.hid (hb0.out.trans (hb.mono hb0.out.size));refine wpTail_step ?_;intro Q1 hQ1;go_wp2_with fail
 refine hQ1 _ _ rfl (fun _=>⟨⟨_,hb.alloc hbz _⟩,rfl⟩) ?_;clear hQ1 Q1;have hor:=Lib.hid (or_any (Blk.new wx 3 #[.int .i64 (cmpS a.key b.key),.int .i64 (cmpN b.seq a.seq)]));have hfin2:=Lib.hid (hfin.out.trans ((Below.refl wx.heap.size wx).alloc (Nat.le_refl _) (.cells #[.int .i64 (cmpS a.key b.key),.int .i64 (cmpN b.seq a.seq)] 3) |>.mono (by have:=hfin.out.size;omega)));refine wpTail_step ?_;intro Q1 hQ1;go_wp2_with fail
 refine hor.out.mono ?_;rintro e w3 ⟨rfl,rfl⟩;go_wp2_with fail
 refine hQ1 _ _ rfl (fun h=>absurd h (by decide)) ?_;clear hQ1 Q1;refine wpTail_step ?_;intro Q1 hQ1
 go_wp2_with (fail)
 refine hQ1 _ _ rfl (fun h=>absurd h (by decide)) ?_;clear hQ1 Q1;refine wpTail_nil ?_;refine hQ0 _ _ ?_;clear hQ0 Q0;go_wp2_with fail
 go_ret
 exact⟨rfl,hfin2.out⟩
def ltE (a b:Ent):Bool:=decide (ordE a b<0)
theorem ltE_def (a b:Ent):ltE a b=(lessL a.key b.key||(decide (a.key=b.key)&&decide (b.seq<a.seq))):=by
 unfold ltE ordE ordN cmpS cmpN
 by_cases h1:lessL a.key b.key=true
 ·simp[h1]
 ·have h1':lessL a.key b.key=false:=by simpa using h1
  by_cases h2:a.key=b.key
  ·by_cases h3:b.seq<a.seq
   ·simp[h2,h3,less_irrefl]
   ·by_cases h4:a.seq<b.seq
    ·simp[h2,h3,h4,less_irrefl]
    ·simp[h2,h3,h4,less_irrefl]
  ·simp[h1',h2]
theorem order_x (a b:Ent)(w:World):Calls Tryz.prog 66 #[.agg #[.string (bs a.key),.string (bs a.value),.int .u64 (a.seq:Nat),.bool a.gone],.agg #[.string (bs b.key),.string (bs b.value),.int .u64 (b.seq:Nat),.bool b.gone]] w fun e w'=>e=.returned (.int .i64 (ordE a b))∧Below w.heap.size w w':=order_any a b w
theorem le_trans_L {x y z:L}(h1:lessL x y=false)(h2:lessL y z=false):lessL x z=false:=by
 cases h:lessL x z with
 | false=>rfl
 | true =>
  have t:=less_tri y x;rw[h1] at t;simp only[Bool.not_false,Bool.or_eq_true,beq_iff_eq] at t;rcases t with t | t
  ·have:=less_trans t h
   rw[h2] at this;cases this
  ·rw[t,h] at h2;cases h2
theorem eq_of_L {x y:L}(h1:lessL x y=false)(h2:lessL y x=false):x=y:=by
 have t:=less_tri x y;rw[h1,h2] at t
 simpa using t
theorem swo_ltE:SWO ltE where
 irrefl x:=by rw[ltE_def];simp[less_irrefl]
 trans x y z h1 h2:=by
  rw[ltE_def] at *
  simp only[Bool.or_eq_true,Bool.and_eq_true,decide_eq_true_eq] at *
  rcases h1 with h1 | ⟨h1,h3⟩
  ·rcases h2 with h2 | ⟨h2,h4⟩
   ·exact .inl (less_trans h1 h2)
   ·exact .inl (h2 ▸ h1)
  ·rcases h2 with h2 | ⟨h2,h4⟩
   ·exact .inl (h1 ▸ h2)
   ·exact .inr ⟨h1.trans h2,by omega⟩
 ntrans x y z h1 h2:=by
  rw[ltE_def] at *
  simp only[Bool.or_eq_false_iff,Bool.and_eq_false_iff,decide_eq_false_iff_not] at *
  refine⟨le_trans_L h1.1 h2.1,?_⟩
  by_cases hxz:x.key=z.key
  ·have e1:x.key=y.key:=eq_of_L h1.1 (by rw[hxz];exact h2.1);have e2:y.key=z.key:=e1 ▸ hxz;rcases h1.2 with q | q
   ·exact absurd e1 q
   ·rcases h2.2 with q2 | q2
    ·exact absurd e2 q2
    ·exact .inr (by omega)
  ·exact .inl hxz
theorem ordE_eq (a b:Ent):(ordE a b==0)=(!ltE a b&&!ltE b a):=by
 rw[ltE_def,ltE_def];unfold ordE ordN cmpS cmpN
 by_cases h1:lessL a.key b.key=true
 ·simp[h1]
 ·have h1':lessL a.key b.key=false:=by simpa using h1
  by_cases h2:a.key=b.key
  ·by_cases h3:b.seq<a.seq
   ·simp[h2,h3,less_irrefl]
   ·by_cases h4:a.seq<b.seq
    ·simp[h2,h3,h4,less_irrefl]
    ·simp[h2,h3,h4,less_irrefl]
  ·have h5:lessL b.key a.key=true:=by
    cases h:lessL b.key a.key with
    | true=>rfl
    | false=>exact absurd (eq_of_L h1' h) h2
   simp[h1',h2,h5]
theorem insOuter_go (lt:Ent→Ent→Bool)(a b i:Nat)(d:Array Ent)(h:i<b):insOuter lt a b i d=insOuter lt a b (i+1) (insInner lt a i d):=by
 conv=>lhs;unfold insOuter
 rw[if_pos h]
theorem insOuter_end (lt:Ent→Ent→Bool)(a b i:Nat)(d:Array Ent)(h:¬i<b):insOuter lt a b i d=d:=by
 unfold insOuter;rw[if_neg h]
theorem insInner_st (lt:Ent→Ent→Bool)(a j:Nat)(d:Array Ent)(h:j≤a∨lt d[j]! d[j-1]! = false):insInner lt a j d=d:=by
 cases j with
 | zero=>rfl
 | succ j =>
  unfold insInner;rw[if_neg];simp only[Bool.and_eq_true,decide_eq_true_eq];rintro ⟨h1,h2⟩;rcases h with h | h
  ·omega
  ·rw[Nat.add_sub_cancel] at h
   rw[h] at h2;cases h2
theorem insInner_go (lt:Ent→Ent→Bool)(a j:Nat)(d:Array Ent)(h:a<j+1)(h2:lt d[j+1]! d[j]! = true):insInner lt a (j+1) d=insInner lt a j (swp d (j+1) j):=by
 conv=>lhs;unfold insInner
 rw[if_pos (by simp only[Bool.and_eq_true,decide_eq_true_eq];exact⟨h,h2⟩)]
set_option maxRecDepth 100000 in
set_option maxHeartbeats 4000000 in
theorem Ins_any {w:World}{g cap:Nat}{d:Array Ent}(h:SRow w g cap d)(a b:Nat)(hab:a≤b)(hbn:b≤d.size)(hsz:d.size≤1000000) :
  Calls Tryz.prog 175 #[.slice (some ⟨g,0,none⟩) d.size cap,.int .i64 (a:Nat),.int .i64 (b:Nat),.func (.func 66) #[] #[]] w fun e w'=>e=.returned (.tuple #[])∧SRow w' g cap (insertionSort ltE d a b)∧KeptBut w w' (fun k=>k=g):=by
 obtain⟨N,hN⟩:∃N,d.size=N:=⟨_,rfl⟩;obtain⟨res,hres⟩:∃res,insertionSort ltE d a b=res:=⟨_,rfl⟩;have hcmp:=Lib.hid (fun (W:World) (x y:Ent)=>order_x x y W);rw[hN,hres];rw[hN] at hbn hsz;unfold insertionSort at hres
 go_enter Tryz.func175,Tryz.ntmps175
 go_wp2_with fail
 go_loopw [8] (fun iv wr=>∃(i:Nat) (dk:Array Ent),a<i∧i≤b+1∧iv=.int .i64 (i:Nat)∧SRow wr g cap dk∧dk.size=N∧insOuter ltE a b i dk=res∧KeptBut w wr (fun k=>k=g)) (fun iv _=>b+1-(intOf iv).toNat)
 case atStart=>exact⟨a+1,d,by omega,by omega,by go_num,h,hN,hres,KeptBut.refl _ _⟩
 case round =>
  obtain⟨i,dk,hai,hib,rfl,hr,hdk,heq,hkp⟩:=hrel
  by_cases hlt:i<b
  ·have hlt':(i:Int)<b:=by omega
   rw[insOuter_go _ _ _ _ _ hlt] at heq;replace heq:=Lib.hid heq;replace hkp:=Lib.hid hkp;replace hr:=Lib.hid hr;go_wp2_with fail
   go_loopw [9] (fun jv ws=>∃(j:Nat) (dj:Array Ent),a≤j∧j≤i∧jv=.int .i64 (j:Nat)∧SRow ws g cap dj∧dj.size=N∧insInner ltE a j dj=insInner ltE a i dk∧KeptBut w ws (fun k=>k=g)) (fun jv _=>(intOf jv).toNat)
   case atStart=>exact⟨i,dk,by omega,Nat.le_refl _,rfl,hr.out,hdk,rfl,hkp.out⟩
   case round =>
    clear hr hkp;obtain⟨j,dj,haj,hji,rfl,hr,hdj,heqj,hkp⟩:=hrel;have hgl:=hr.lt
    by_cases hja:a<j
    ·obtain⟨jp,rfl⟩:∃jp,j=jp+1:=⟨j-1,by omega⟩
     have hja':(a:Int)<(jp:Int)+1:=by omega
     have e0:((jp:Int)+1).toNat=jp+1:=by omega
     have jz:(jp:Int)+1<N:=by omega
     have jz1:(jp:Int)<N:=by omega
     have e9:(jp:Int)+1-1=jp:=by omega
     obtain⟨p0,p1,p2,p3⟩:=hr.at_ (i:=jp+1) (by omega);obtain⟨q0,q1,q2,q3⟩:=hr.at_ (i:=jp) (by omega);replace heqj:=Lib.hid heqj;replace hkp:=Lib.hid hkp;replace hr:=Lib.hid hr
     by_cases hlv:ordE dj[jp+1]! dj[jp]!<0
     ·go_wp2_with fail
      have hxc:=@Ext.cell;refine wp_region_ext (by kernel_rfl) (by kernel_rfl) ?_
      repeat (go_big_quiet_step ((first | (go_at_call 66;exact Calls.ext ((hcmp.out _ dj[jp+1]! dj[jp]!))))))
      refine wpQuiet_nil ?_;clear hxc;intro wx hwx;obtain⟨x,hx⟩:=hwx;have hb:=x.below;rw[←hx] at hb;clear hx x;have hr':=Lib.hid (hr.out.below hb hgl);have hkp':=Lib.hid (hkp.out.trans (KeptBut.of_below hb) (fun _ _ h=>h));clear p0 p1 p2 p3 q0 q1 q2 q3 hr hkp hb hgl;have hr:=hr';have hkp:=hkp';clear hr' hkp';obtain⟨p0,p1,p2,p3⟩:=hr.out.at_ (i:=jp+1) (by omega);obtain⟨q0,q1,q2,q3⟩:=hr.out.at_ (i:=jp) (by omega);have hf:=hr.out.frz;have hgl:=hr.out.lt;go_wp2_with fail
      have hxc:=@Ext.cell;have hxf:=@Ext.frozen;refine wp_hide (fun Q0 hQ0=>?_);refine wp_region_line (fun w'=>∃x:Ext _,w'=x.w) [some false,some false,some true,some true,some true,some false,some false,some false,some false,some false,some false,some false,some false,some false,some false,none,none,none] 0 (by kernel_rfl) (by kernel_rfl) ⟨⟨_,(Below.refl _ _).drew⟩,rfl⟩ ?_;simp only[earlyL,tailL]
      repeat (first | ((with_reducible refine wpMix_p ?_);go_big_quiet_step (fail);refine wpQuiet_nil ?_) | ((with_reducible refine wpMix_e ?_);go_big_quiet_step ((first | fail));refine wpQuiet_nil ?_))
      refine wpMix_nil ?_;clear hxc hxf;intro wx hwx;obtain⟨x,hx⟩:=hwx;have hb:=x.below;rw[←hx] at hb;clear hx x;clear p0 p1 p2 p3 q0 q1 q2 q3 hf;have hrx:=hr.out.below hb hgl;have hglx:=hrx.lt;obtain⟨p0,p1,p2,p3⟩:=hrx.at_ (i:=jp+1) (by omega);obtain⟨q0,q1,q2,q3⟩:=hrx.at_ (i:=jp) (by omega);have hf:=hrx.frz;replace hrx:=Lib.hid hrx;replace hb:=Lib.hid hb;refine wpTail_step ?_;intro Q1 hQ1;go_wp2_with fail
      have hr1:=hrx.out.lay (jp+1) dj[jp]!;have hk1:KeptBut w (lay4 wx g (jp+1) dj[jp]!) (fun k=>k=g):=(hkp.out.trans (KeptBut.of_below hb.out) (fun _ _ h=>h)).lay4 rfl;unfold lay4 at hr1 hk1
      generalize (((wx.setCell ⟨g,(jp+1)*4,none⟩ (.string (bs dj[jp]!.key))).setCell ⟨g,(jp+1)*4+1,none⟩ (.string (bs dj[jp]!.value))).setCell ⟨g,(jp+1)*4+2,none⟩ (.int .u64 (dj[jp]!.seq:Nat))).setCell ⟨g,(jp+1)*4+3,none⟩ (.bool dj[jp]!.gone)=wy at *
      refine hQ1 _ _ rfl (fun h=>absurd h (by decide)) ?_;clear hQ1 Q1 p0 p1 p2 p3 q0 q1 q2 q3 hf;have hgly:=hr1.lt;obtain⟨q0,q1,q2,q3⟩:=hr1.at_ (i:=jp) (by rw[Array.size_setIfInBounds];omega);have hf:=hr1.frz;replace hr1:=Lib.hid hr1;replace hk1:=Lib.hid hk1;refine wpTail_step ?_;intro Q1 hQ1
      go_wp2_with (fail)
      refine hQ1 _ _ rfl (fun h=>absurd h (by decide)) ?_;clear hQ1 Q1;refine wpTail_step ?_;intro Q1 hQ1;go_wp2_with fail
      have hr2:=hr1.out.lay (jp) dj[jp+1]!;have hk2:KeptBut w (lay4 wy g (jp) dj[jp+1]!) (fun k=>k=g):=hk1.out.lay4 rfl;unfold lay4 at hr2 hk2
      generalize (((wy.setCell ⟨g,(jp)*4,none⟩ (.string (bs dj[jp+1]!.key))).setCell ⟨g,(jp)*4+1,none⟩ (.string (bs dj[jp+1]!.value))).setCell ⟨g,(jp)*4+2,none⟩ (.int .u64 (dj[jp+1]!.seq:Nat))).setCell ⟨g,(jp)*4+3,none⟩ (.bool dj[jp+1]!.gone)=wz at *
      refine hQ1 _ _ rfl (fun h=>absurd h (by decide)) ?_;clear hQ1 Q1 q0 q1 q2 q3 hf;refine wpTail_nil ?_;refine hQ0 _ _ ?_;clear hQ0 Q0;replace hr2:=Lib.hid hr2;replace hk2:=Lib.hid hk2;go_wp2_with fail
      exact⟨⟨jp,swp dj (jp+1) jp,by omega,by omega,by go_num,hr2.out,by rw[swp_size];exact hdj,by rw[←insInner_go ltE a jp dj (by omega) (by unfold ltE;simpa using hlv)];exact heqj.out,hk2.out⟩,by simp[intOf]⟩
     ·go_wp2_with fail
      have hxc:=@Ext.cell;refine wp_region_ext (by kernel_rfl) (by kernel_rfl) ?_
      repeat (go_big_quiet_step ((first | (go_at_call 66;exact Calls.ext ((hcmp.out _ dj[jp+1]! dj[jp]!))))))
      refine wpQuiet_nil ?_;clear hxc;intro wx hwx;obtain⟨x,hx⟩:=hwx;have hb:=x.below;rw[←hx] at hb;clear hx x;have hr':=Lib.hid (hr.out.below hb hgl);have hkp':=Lib.hid (hkp.out.trans (KeptBut.of_below hb) (fun _ _ h=>h));clear p0 p1 p2 p3 q0 q1 q2 q3 hr hkp hb hgl;have hst:insInner ltE a (jp+1) dj=dj:=insInner_st _ _ _ _ (.inr (by rw[Nat.add_sub_cancel];unfold ltE;simpa using hlv))
      have hnx:insOuter ltE a b (i+1) dj=res:=by rw[←heq.out,←heqj.out,hst]
      replace hnx:=Lib.hid hnx;replace hst:=Lib.hid hst;go_wp2_with fail
      exact⟨⟨i+1,dj,by omega,by omega,by go_num,hr'.out,hdj,hnx.out,hkp'.out⟩,by simp[intOf];omega⟩
    ·have hja':¬(a:Int)<j:=by omega
     have hst:insInner ltE a j dj=dj:=insInner_st _ _ _ _ (.inl (by omega))
     have hnx:insOuter ltE a b (i+1) dj=res:=by rw[←heq.out,←heqj,hst]
     replace hnx:=Lib.hid hnx;replace hst:=Lib.hid hst;replace heqj:=Lib.hid heqj;replace hkp:=Lib.hid hkp;replace hr:=Lib.hid hr;go_wp2_with fail
     have hxc:=@Ext.cell;refine wp_region_ext (by kernel_rfl) (by kernel_rfl) ?_
     repeat (go_big_quiet_step ((first | fail)))
     refine wpQuiet_nil ?_;clear hxc;intro wx hwx;obtain⟨x,hx⟩:=hwx;have hb:=x.below;rw[←hx] at hb;clear hx x;have hr':=Lib.hid (hr.out.below hb hgl);have hkp':=Lib.hid (hkp.out.trans (KeptBut.of_below hb) (fun _ _ h=>h));go_wp2_with fail
     exact⟨⟨i+1,dj,by omega,by omega,by go_num,hr'.out,hdj,hnx.out,hkp'.out⟩,by simp[intOf];omega⟩
  ·have hlt':¬(i:Int)<b:=by omega
   rw[insOuter_end _ _ _ _ _ hlt] at heq;subst heq;go_wp2_with fail
   go_end0
   exact⟨rfl,hr,hkp⟩
theorem srch_go {p:Nat→Bool}{i j:Nat}(h:i<j)(hp:p ((i+j) / 2)=true):srch p i j=srch p ((i+j) / 2+1) j:=by
 conv=>lhs;rw[srch]
 rw[dif_pos h,if_pos hp]
theorem srch_back {p:Nat→Bool}{i j:Nat}(h:i<j)(hp:p ((i+j) / 2)=false):srch p i j=srch p i ((i+j) / 2):=by
 conv=>lhs;rw[srch]
 rw[dif_pos h,if_neg (by rw[hp];decide)]
theorem srch_end {p:Nat→Bool}{i j:Nat}(h:¬i<j):srch p i j=i:=by
 rw[srch,dif_neg h]
set_option maxRecDepth 100000 in
set_option maxHeartbeats 8000000 in
theorem Sym_one {w:World}{g cap:Nat}{d:Array Ent}(h:SRow w g cap d)(a m b:Nat)(ham:m=a+1)(hmb:m<b)(hbn:b≤d.size)(hsz:d.size≤1000000) :
  Calls Tryz.prog 176 #[.slice (some ⟨g,0,none⟩) d.size cap,.int .i64 (a:Nat),.int .i64 (m:Nat),.int .i64 (b:Nat),.func (.func 66) #[] #[]] w fun e w'=>e=.returned (.tuple #[])∧SRow w' g cap (upG a (srch (fun h=>ltE d[h]! d[a]!) m b-1-a) d)∧KeptBut w w' (fun k=>k=g):=by
 obtain⟨N,hN⟩:∃N,d.size=N:=⟨_,rfl⟩;have hcmp:=Lib.hid (fun (W:World) (x y:Ent)=>order_x x y W);obtain⟨S,hS⟩:∃S,srch (fun h=>ltE d[h]! d[a]!) m b=S:=⟨_,rfl⟩;have hsp:=srch_spec (fun h=>ltE d[h]! d[a]!) _ m b rfl (by omega);rw[hS] at hsp ⊢;obtain⟨s1,s2,_,_⟩:=hsp;rw[hN];rw[hN] at hbn hsz
 have e1:(m:Int)-a=1:=by omega
 have hma:a<m:=by omega
 replace ham:=Lib.hid ham
 go_enter Tryz.func176,Tryz.ntmps176
 go_wp2_with fail
 go_loopw [10,11,12] (fun iv jv _ wr=>∃(i j:Nat),i≤j∧m≤i∧j≤b∧iv=.int .i64 (i:Nat)∧jv=.int .i64 (j:Nat)∧SRow wr g cap d∧srch (fun h=>ltE d[h]! d[a]!) i j=S∧KeptBut w wr (fun k=>k=g)) (fun iv jv _ _=>(intOf jv).toNat-(intOf iv).toNat)
 case atStart=>exact⟨m,b,by omega,Nat.le_refl _,Nat.le_refl _,rfl,rfl,h,hS,KeptBut.refl _ _⟩
 case round =>
  obtain⟨i,j,hij,hmi,hjb,rfl,rfl,hr,heq,hkp⟩:=hrel;have hgl:=hr.lt
  by_cases hlt:i<j
  ·have hlt':(i:Int)<j:=by omega
   obtain⟨hh,hhe⟩:∃hh,(i+j) / 2=hh:=⟨_,rfl⟩
   have eh:((i:Int)+j) / 2=(hh:Nat):=by omega
   have hi1:(hh:Int)<N:=by omega
   have hi2:(a:Int)<N:=by omega
   obtain⟨p0,p1,p2,p3⟩:=hr.at_ (i:=hh) (by omega);obtain⟨q0,q1,q2,q3⟩:=hr.at_ (i:=a) (by omega);replace hkp:=Lib.hid hkp;replace hr:=Lib.hid hr
   by_cases hlv:ordE d[hh]! d[a]!<0
   ·have hnx:=srch_go (p:=fun h=>ltE d[h]! d[a]!) hlt (by rw[hhe];unfold ltE;simpa using hlv);rw[heq,hhe] at hnx;replace hnx:=Lib.hid hnx;replace heq:=Lib.hid heq;replace hhe:=Lib.hid hhe;go_wp2_with fail
    have hxc:=@Ext.cell;refine wp_region_ext (by kernel_rfl) (by kernel_rfl) ?_
    repeat (go_big_quiet_step ((first | (go_at_call 66;exact Calls.ext ((hcmp.out _ d[hh]! d[a]!))))))
    refine wpQuiet_nil ?_;clear hxc;intro wx hwx;obtain⟨x,hx⟩:=hwx;have hb:=x.below;rw[←hx] at hb;clear hx x;have hr':=Lib.hid (hr.out.below hb hgl);have hkp':=Lib.hid (hkp.out.trans (KeptBut.of_below hb) (fun _ _ h=>h));have hhe':=hhe.out;go_wp2_with fail
    exact⟨⟨hh+1,j,by omega,by omega,by omega,by go_num,rfl,hr'.out,hnx.out.symm,hkp'.out⟩,by simp[intOf];omega⟩
   ·have hnx:=srch_back (p:=fun h=>ltE d[h]! d[a]!) hlt (by rw[hhe];unfold ltE;simpa using hlv);rw[heq,hhe] at hnx;replace hnx:=Lib.hid hnx;replace heq:=Lib.hid heq;replace hhe:=Lib.hid hhe;go_wp2_with fail
    have hxc:=@Ext.cell;refine wp_region_ext (by kernel_rfl) (by kernel_rfl) ?_
    repeat (go_big_quiet_step ((first | (go_at_call 66;exact Calls.ext ((hcmp.out _ d[hh]! d[a]!))))))
    refine wpQuiet_nil ?_;clear hxc;intro wx hwx;obtain⟨x,hx⟩:=hwx;have hb:=x.below;rw[←hx] at hb;clear hx x;have hr':=Lib.hid (hr.out.below hb hgl);have hkp':=Lib.hid (hkp.out.trans (KeptBut.of_below hb) (fun _ _ h=>h));have hhe':=hhe.out;go_wp2_with fail
    go_roundw
    case rel=>exact⟨i,hh,by omega,by omega,by omega,rfl,rfl,hr'.out,hnx.out.symm,hkp'.out⟩
    case measure=>simp[intOf];omega
  ·have hlt':¬(i:Int)<j:=by omega
   rw[srch_end hlt] at heq;subst heq;obtain⟨res,hres⟩:∃res,upG a (i-1-a) d=res:=⟨_,rfl⟩
   have e7:(i:Int)-1=(i-1:Nat):=by omega
   replace hr:=Lib.hid hr;replace hkp:=Lib.hid hkp;go_wp2_with fail
   go_loopw [13] (fun kv ws=>∃(k:Nat) (dk:Array Ent),a≤k∧k≤i-1∧kv=.int .i64 (k:Nat)∧SRow ws g cap dk∧dk.size=N∧upG k (i-1-k) dk=res∧KeptBut w ws (fun k=>k=g)) (fun kv _=>i-(intOf kv).toNat)
   case atStart=>exact⟨a,d,Nat.le_refl _,by omega,rfl,hr.out,hN,hres,hkp.out⟩
   case round =>
    clear hr hkp;obtain⟨k,dk,hak,hki,rfl,hr,hdk,heqk,hkp⟩:=hrel
    by_cases hk:k<i-1
    ·have hk':(k:Int)<(i-1:Nat):=by omega
     have k1:(k:Int)<N:=by omega
     have k2:(k:Int)+1<N:=by omega
     have k3:((k:Int)+1).toNat=k+1:=by omega
     rw[show i-1-k=(i-1-(k+1))+1 by omega,upG] at heqk;replace heqk:=Lib.hid heqk;replace hr:=Lib.hid hr;replace hkp:=Lib.hid hkp;obtain⟨p0,p1,p2,p3⟩:=hr.out.at_ (i:=k) (by omega);obtain⟨q0,q1,q2,q3⟩:=hr.out.at_ (i:=k+1) (by omega);have hf:=hr.out.frz;have hgl:=hr.out.lt;go_wp2_with fail
     have hxc:=@Ext.cell;have hxf:=@Ext.frozen;refine wp_hide (fun Q0 hQ0=>?_);refine wp_region_line (fun w'=>∃x:Ext _,w'=x.w) [some false,some false,some true,some true,some true,some false,some false,some false,some false,some false,some false,some false,some false,some false,some false,none,none,none] 0 (by kernel_rfl) (by kernel_rfl) ⟨⟨_,(Below.refl _ _).drew⟩,rfl⟩ ?_;simp only[earlyL,tailL]
     repeat (first | ((with_reducible refine wpMix_p ?_);go_big_quiet_step (fail);refine wpQuiet_nil ?_) | ((with_reducible refine wpMix_e ?_);go_big_quiet_step ((first | fail));refine wpQuiet_nil ?_))
     refine wpMix_nil ?_;clear hxc hxf;intro wx hwx;obtain⟨x,hx⟩:=hwx;have hb:=x.below;rw[←hx] at hb;clear hx x;clear p0 p1 p2 p3 q0 q1 q2 q3 hf;have hrx:=hr.out.below hb hgl;have hglx:=hrx.lt;obtain⟨p0,p1,p2,p3⟩:=hrx.at_ (i:=k) (by omega);obtain⟨q0,q1,q2,q3⟩:=hrx.at_ (i:=k+1) (by omega);have hf:=hrx.frz;replace hrx:=Lib.hid hrx;replace hb:=Lib.hid hb;refine wpTail_step ?_;intro Q1 hQ1;go_wp2_with fail
     have hr1:=hrx.out.lay (k) dk[k+1]!;have hk1:KeptBut w (lay4 wx g (k) dk[k+1]!) (fun k=>k=g):=(hkp.out.trans (KeptBut.of_below hb.out) (fun _ _ h=>h)).lay4 rfl;unfold lay4 at hr1 hk1
     generalize (((wx.setCell ⟨g,(k)*4,none⟩ (.string (bs dk[k+1]!.key))).setCell ⟨g,(k)*4+1,none⟩ (.string (bs dk[k+1]!.value))).setCell ⟨g,(k)*4+2,none⟩ (.int .u64 (dk[k+1]!.seq:Nat))).setCell ⟨g,(k)*4+3,none⟩ (.bool dk[k+1]!.gone)=wy at *
     refine hQ1 _ _ rfl (fun h=>absurd h (by decide)) ?_;clear hQ1 Q1 p0 p1 p2 p3 q0 q1 q2 q3 hf;have hgly:=hr1.lt;obtain⟨q0,q1,q2,q3⟩:=hr1.at_ (i:=k+1) (by rw[Array.size_setIfInBounds];omega);have hf:=hr1.frz;replace hr1:=Lib.hid hr1;replace hk1:=Lib.hid hk1;refine wpTail_step ?_;intro Q1 hQ1
     go_wp2_with (fail)
     refine hQ1 _ _ rfl (fun h=>absurd h (by decide)) ?_;clear hQ1 Q1;refine wpTail_step ?_;intro Q1 hQ1;go_wp2_with fail
     have hr2:=hr1.out.lay (k+1) dk[k]!;have hk2:KeptBut w (lay4 wy g (k+1) dk[k]!) (fun k=>k=g):=hk1.out.lay4 rfl;unfold lay4 at hr2 hk2
     generalize (((wy.setCell ⟨g,(k+1)*4,none⟩ (.string (bs dk[k]!.key))).setCell ⟨g,(k+1)*4+1,none⟩ (.string (bs dk[k]!.value))).setCell ⟨g,(k+1)*4+2,none⟩ (.int .u64 (dk[k]!.seq:Nat))).setCell ⟨g,(k+1)*4+3,none⟩ (.bool dk[k]!.gone)=wz at *
     refine hQ1 _ _ rfl (fun h=>absurd h (by decide)) ?_;clear hQ1 Q1 q0 q1 q2 q3 hf;refine wpTail_nil ?_;refine hQ0 _ _ ?_;clear hQ0 Q0;replace hr2:=Lib.hid hr2;replace hk2:=Lib.hid hk2;go_wp2_with fail
     exact⟨⟨k+1,swp dk k (k+1),by omega,by omega,by go_num,hr2.out,by rw[swp_size];exact hdk,heqk.out,hk2.out⟩,by simp[intOf];omega⟩
    ·have hk':¬(k:Int)<(i-1:Nat):=by omega
     rw[show i-1-k=0 by omega,upG] at heqk;rw[heqk] at hr;go_wp2_with fail
     refine bodyPost_ret (results_none (by kernel_rfl) _ _ _) rfl ?_;exact⟨rfl,hr,hkp⟩
set_option maxRecDepth 100000 in
set_option maxHeartbeats 8000000 in
theorem Sym_last {w:World}{g cap:Nat}{d:Array Ent}(h:SRow w g cap d)(a m b:Nat)(ham:a+1<m)(hmb:b=m+1)(hbn:b≤d.size)(hsz:d.size≤1000000) :
  Calls Tryz.prog 176 #[.slice (some ⟨g,0,none⟩) d.size cap,.int .i64 (a:Nat),.int .i64 (m:Nat),.int .i64 (b:Nat),.func (.func 66) #[] #[]] w fun e w'=>e=.returned (.tuple #[])∧SRow w' g cap (dnG (srch (fun h=>!ltE d[m]! d[h]!) a m) (m-srch (fun h=>!ltE d[m]! d[h]!) a m) d)∧KeptBut w w' (fun k=>k=g):=by
 obtain⟨N,hN⟩:∃N,d.size=N:=⟨_,rfl⟩;have hcmp:=Lib.hid (fun (W:World) (x y:Ent)=>order_x x y W);obtain⟨S,hS⟩:∃S,srch (fun h=>!ltE d[m]! d[h]!) a m=S:=⟨_,rfl⟩;have hsp:=srch_spec (fun h=>!ltE d[m]! d[h]!) _ a m rfl (by omega);rw[hS] at hsp ⊢;obtain⟨s1,s2,_,_⟩:=hsp;rw[hN];rw[hN] at hbn hsz
 have e0:¬(m:Int)-a=1:=by omega
 have e1:(b:Int)-m=1:=by omega
 have hbm:m<b:=by omega
 obtain⟨D,hD⟩:∃D:Int,(m:Int)-a=D:=⟨_,rfl⟩
 have hD1:¬D=1:=by omega
 have hD2:(D==1)=false:=by simpa using hD1
 replace hmb:=Lib.hid hmb
 go_enter Tryz.func176,Tryz.ntmps176
 go_wp2_with fail
 go_loopw [14,15,16] (fun iv jv _ wr=>∃(i j:Nat),i≤j∧a≤i∧j≤m∧iv=.int .i64 (i:Nat)∧jv=.int .i64 (j:Nat)∧SRow wr g cap d∧srch (fun h=>!ltE d[m]! d[h]!) i j=S∧KeptBut w wr (fun k=>k=g)) (fun iv jv _ _=>(intOf jv).toNat-(intOf iv).toNat)
 case atStart=>exact⟨a,m,by omega,Nat.le_refl _,Nat.le_refl _,rfl,rfl,h,hS,KeptBut.refl _ _⟩
 case round =>
  obtain⟨i,j,hij,hmi,hjb,rfl,rfl,hr,heq,hkp⟩:=hrel;have hgl:=hr.lt
  by_cases hlt:i<j
  ·have hlt':(i:Int)<j:=by omega
   obtain⟨hh,hhe⟩:∃hh,(i+j) / 2=hh:=⟨_,rfl⟩
   have eh:((i:Int)+j) / 2=(hh:Nat):=by omega
   have hi1:(hh:Int)<N:=by omega
   have hi2:(m:Int)<N:=by omega
   obtain⟨p0,p1,p2,p3⟩:=hr.at_ (i:=hh) (by omega);obtain⟨q0,q1,q2,q3⟩:=hr.at_ (i:=m) (by omega);replace hkp:=Lib.hid hkp;replace hr:=Lib.hid hr
   by_cases hlv:ordE d[m]! d[hh]!<0
   ·have hnx:=srch_back (p:=fun h=>!ltE d[m]! d[h]!) hlt (by rw[hhe];unfold ltE;simpa using hlv);rw[heq,hhe] at hnx;replace hnx:=Lib.hid hnx;replace heq:=Lib.hid heq;replace hhe:=Lib.hid hhe;go_wp2_with fail
    have hxc:=@Ext.cell;refine wp_region_ext (by kernel_rfl) (by kernel_rfl) ?_
    repeat (go_big_quiet_step ((first | (go_at_call 66;exact Calls.ext ((hcmp.out _ d[m]! d[hh]!))))))
    refine wpQuiet_nil ?_;clear hxc;intro wx hwx;obtain⟨x,hx⟩:=hwx;have hb:=x.below;rw[←hx] at hb;clear hx x;have hr':=Lib.hid (hr.out.below hb hgl);have hkp':=Lib.hid (hkp.out.trans (KeptBut.of_below hb) (fun _ _ h=>h));have hhe':=hhe.out;go_wp2_with fail
    exact⟨⟨i,hh,by omega,by omega,by omega,rfl,rfl,hr'.out,hnx.out.symm,hkp'.out⟩,by simp[intOf];omega⟩
   ·have hnx:=srch_go (p:=fun h=>!ltE d[m]! d[h]!) hlt (by rw[hhe];unfold ltE;simpa using hlv);rw[heq,hhe] at hnx
    have hld:decide (ordE d[m]! d[hh]!<0)=false:=by simpa using hlv
    have hld2:(!decide (ordE d[m]! d[hh]!<0))=true:=by rw[hld];rfl
    replace hnx:=Lib.hid hnx;replace heq:=Lib.hid heq;replace hhe:=Lib.hid hhe;go_wp2_with fail
    have hxc:=@Ext.cell;refine wp_region_ext (by kernel_rfl) (by kernel_rfl) ?_
    repeat (go_big_quiet_step ((first | (go_at_call 66;exact Calls.ext ((hcmp.out _ d[m]! d[hh]!))))))
    refine wpQuiet_nil ?_;clear hxc;intro wx hwx;obtain⟨x,hx⟩:=hwx;have hb:=x.below;rw[←hx] at hb;clear hx x;have hr':=Lib.hid (hr.out.below hb hgl);have hkp':=Lib.hid (hkp.out.trans (KeptBut.of_below hb) (fun _ _ h=>h));have hhe':=hhe.out;go_wp2_with fail
    exact⟨⟨hh+1,j,by omega,by omega,by omega,by go_num,rfl,hr'.out,hnx.out.symm,hkp'.out⟩,by simp[intOf];omega⟩
  ·have hlt':¬(i:Int)<j:=by omega
   rw[srch_end hlt] at heq;subst heq;obtain⟨res,hres⟩:∃res,dnG i (m-i) d=res:=⟨_,rfl⟩;replace hr:=Lib.hid hr;replace hkp:=Lib.hid hkp;go_wp2_with fail
   go_loopw [17] (fun kv ws=>∃(k:Nat) (dk:Array Ent),i≤k∧k≤m∧kv=.int .i64 (k:Nat)∧SRow ws g cap dk∧dk.size=N∧dnG i (k-i) dk=res∧KeptBut w ws (fun k=>k=g)) (fun kv _=>(intOf kv).toNat)
   case atStart=>exact⟨m,d,by omega,Nat.le_refl _,rfl,hr.out,hN,hres,hkp.out⟩
   case round =>
    clear hr hkp;obtain⟨k,dk,hak,hki,rfl,hr,hdk,heqk,hkp⟩:=hrel
    by_cases hk:i<k
    ·obtain⟨kp,rfl⟩:∃kp,k=kp+1:=⟨k-1,by omega⟩
     have hk':(i:Int)<(kp:Int)+1:=by omega
     have k1:(kp:Int)<N:=by omega
     have k2:(kp:Int)+1<N:=by omega
     have k3:((kp:Int)+1).toNat=kp+1:=by omega
     have k4:(kp:Int)+1-1=kp:=by omega
     rw[show kp+1-i=(kp-i)+1 by omega,dnG,show i+(kp-i)+1=kp+1 by omega,show i+(kp-i)=kp by omega] at heqk;replace heqk:=Lib.hid heqk;replace hr:=Lib.hid hr;replace hkp:=Lib.hid hkp;obtain⟨p0,p1,p2,p3⟩:=hr.out.at_ (i:=kp+1) (by omega);obtain⟨q0,q1,q2,q3⟩:=hr.out.at_ (i:=kp) (by omega);have hf:=hr.out.frz;have hgl:=hr.out.lt;go_wp2_with fail
     have hxc:=@Ext.cell;have hxf:=@Ext.frozen;refine wp_hide (fun Q0 hQ0=>?_);refine wp_region_line (fun w'=>∃x:Ext _,w'=x.w) [some false,some false,some true,some true,some true,some false,some false,some false,some false,some false,some false,some false,some false,some false,some false,none,none,none] 0 (by kernel_rfl) (by kernel_rfl) ⟨⟨_,(Below.refl _ _).drew⟩,rfl⟩ ?_;simp only[earlyL,tailL]
     repeat (first | ((with_reducible refine wpMix_p ?_);go_big_quiet_step (fail);refine wpQuiet_nil ?_) | ((with_reducible refine wpMix_e ?_);go_big_quiet_step ((first | fail));refine wpQuiet_nil ?_))
     refine wpMix_nil ?_;clear hxc hxf;intro wx hwx;obtain⟨x,hx⟩:=hwx;have hb:=x.below;rw[←hx] at hb;clear hx x;clear p0 p1 p2 p3 q0 q1 q2 q3 hf;have hrx:=hr.out.below hb hgl;have hglx:=hrx.lt;obtain⟨p0,p1,p2,p3⟩:=hrx.at_ (i:=kp+1) (by omega);obtain⟨q0,q1,q2,q3⟩:=hrx.at_ (i:=kp) (by omega);have hf:=hrx.frz;replace hrx:=Lib.hid hrx;replace hb:=Lib.hid hb;refine wpTail_step ?_;intro Q1 hQ1;go_wp2_with fail
     have hr1:=hrx.out.lay (kp+1) dk[kp]!;have hk1:KeptBut w (lay4 wx g (kp+1) dk[kp]!) (fun k=>k=g):=(hkp.out.trans (KeptBut.of_below hb.out) (fun _ _ h=>h)).lay4 rfl;unfold lay4 at hr1 hk1
     generalize (((wx.setCell ⟨g,(kp+1)*4,none⟩ (.string (bs dk[kp]!.key))).setCell ⟨g,(kp+1)*4+1,none⟩ (.string (bs dk[kp]!.value))).setCell ⟨g,(kp+1)*4+2,none⟩ (.int .u64 (dk[kp]!.seq:Nat))).setCell ⟨g,(kp+1)*4+3,none⟩ (.bool dk[kp]!.gone)=wy at *
     refine hQ1 _ _ rfl (fun h=>absurd h (by decide)) ?_;clear hQ1 Q1 p0 p1 p2 p3 q0 q1 q2 q3 hf;have hgly:=hr1.lt;obtain⟨q0,q1,q2,q3⟩:=hr1.at_ (i:=kp) (by rw[Array.size_setIfInBounds];omega);have hf:=hr1.frz;replace hr1:=Lib.hid hr1;replace hk1:=Lib.hid hk1;refine wpTail_step ?_;intro Q1 hQ1
     go_wp2_with (fail)
     refine hQ1 _ _ rfl (fun h=>absurd h (by decide)) ?_;clear hQ1 Q1;refine wpTail_step ?_;intro Q1 hQ1;go_wp2_with fail
     have hr2:=hr1.out.lay (kp) dk[kp+1]!;have hk2:KeptBut w (lay4 wy g (kp) dk[kp+1]!) (fun k=>k=g):=hk1.out.lay4 rfl;unfold lay4 at hr2 hk2
     generalize (((wy.setCell ⟨g,(kp)*4,none⟩ (.string (bs dk[kp+1]!.key))).setCell ⟨g,(kp)*4+1,none⟩ (.string (bs dk[kp+1]!.value))).setCell ⟨g,(kp)*4+2,none⟩ (.int .u64 (dk[kp+1]!.seq:Nat))).setCell ⟨g,(kp)*4+3,none⟩ (.bool dk[kp+1]!.gone)=wz at *
     refine hQ1 _ _ rfl (fun h=>absurd h (by decide)) ?_;clear hQ1 Q1 q0 q1 q2 q3 hf;refine wpTail_nil ?_;refine hQ0 _ _ ?_;clear hQ0 Q0;replace hr2:=Lib.hid hr2;replace hk2:=Lib.hid hk2;go_wp2_with fail
     exact⟨⟨kp,swp dk (kp+1) kp,by omega,by omega,by go_num,hr2.out,by rw[swp_size];exact hdk,heqk.out,hk2.out⟩,by simp[intOf]⟩
    ·have hk':¬(i:Int)<k:=by omega
     rw[show k-i=0 by omega,dnG] at heqk;rw[heqk] at hr;go_wp2_with fail
     refine bodyPost_ret (results_none (by kernel_rfl) _ _ _) rfl ?_;exact⟨rfl,hr,hkp⟩
end Go.Proofs.YtlpojfgeocpkeaaGreatDoor
