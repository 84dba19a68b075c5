/- Contracts: what a crash leaves of a file. -/
import Derived.Test.YtlpojfgeocpkeaaGreatDoorX04
namespace Go.Proofs.YtlpojfgeocpkeaaGreatDoor
open Go.RowKit
set_option linter.unusedVariables false
set_option linter.unusedSimpArgs false
def keepV (l:List Int):List Value:=l.map fun x=>.int .i64 x
def spoilV (l:List (Int × Nat)):List Value:=l.flatMap fun p=>[.int .i64 p.1,.int .u32 (p.2:Nat)]
structure CraAt (w:World)(c:Cra)(KA PA:Option Addr):Prop where
 keep:Reads w w.heap.size 1 KA c.keep.length (keepV c.keep)
 spoil:Reads w w.heap.size 2 PA c.spoil.length (spoilV c.spoil)
 kl:c.keep.length≤9223372036854775807
 pl:c.spoil.length≤9223372036854775807
 kb:∀x∈c.keep,-9223372036854775808≤x∧x≤9223372036854775807
 pb:∀p∈c.spoil,-9223372036854775808≤p.1∧p.1≤9223372036854775807∧p.2<4294967296
def craV (c:Cra)(KA:Option Addr)(kc:Nat)(PA:Option Addr)(pc:Nat):Value:=.agg #[.int .i64 c.names,.slice KA c.keep.length kc,.slice PA c.spoil.length pc]
theorem spoilV_at:∀(l:List (Int × Nat)) (k:Nat) (p:Int × Nat),l[k]? = some p→(spoilV l)[k*2]? = some (.int .i64 p.1)∧(spoilV l)[k*2+1]? = some (.int .u32 (p.2:Nat))
 | [],k,p,h=>by simp at h
 | m::l,0,p,h=>by simp at h;subst h;simp[spoilV]
 | m::l,k+1,p,h=>by
  have ih:=spoilV_at l k p (by simpa using h);rw[show (k+1)*2=k*2+2 from by omega]
  simpa[spoilV] using ih
def FCr (w:World)(b g cap:Nat)(f:Fil)(c:Cra)(k:Nat)(e:Ending)(w':World):Prop :=
 e=.returned (.tuple #[])∧Blk w' b 83 #[.slice (some ⟨g,0,none⟩) (f.k+keepN c k (f.d.length-f.k)) cap,.int .i64 f.k] ∧
  OwnB w' 0 (.slice (some ⟨g,0,none⟩) (f.k+keepN c k (f.d.length-f.k)) cap) (f.d.take f.k++tailC c k (f.d.drop f.k))∧KeptBut w w' (fun j=>j=b∨j=g)
theorem tailC_nil {c:Cra}{k:Nat}{t:List UInt8}(h:keepN c k t.length=0):tailC c k t=[]:=List.eq_nil_of_length_eq_zero (by rw[tailC_len,h])
theorem FCr.none_ {w wx:World}{b g cap:Nat}{f:Fil}{c:Cra}{k:Nat}(hb:Blk wx b 83 #[.slice (some ⟨g,0,none⟩) f.d.length cap,.int .i64 f.k])(ho:OwnB wx 0 (.slice (some ⟨g,0,none⟩) f.d.length cap) f.d)
  (hk:f.k<f.d.length) (hq:keepN c k (f.d.length-f.k)=0) (hB:Below w.heap.size w wx):FCr w b g cap f c k (.returned (.tuple #[])) (wx.setCell ⟨b,0,none⟩ (.slice (some ⟨g,0,none⟩) f.k cap)):=by
 refine⟨rfl,?_,?_,(KeptBut.of_below hB).then_set (.inl rfl)⟩
 ·rw[hq]
  simpa using hb.set_ 0 (.slice (some ⟨g,0,none⟩) f.k cap)
 ·rw[hq,tailC_nil (by rw[List.length_drop];exact hq),List.append_nil];rcases ho.cut (m:=f.k) (by omega) with h | ⟨h,_⟩
  ·exact own_block h fun j hj=>Below.heap_setCell _ _ _ _ (own_ne_blk h hb (by decide) j hj)
  ·cases h
theorem FCr.plain_ {w wx:World}{b g cap q:Nat}{f:Fil}{c:Cra}{k:Nat}(hb:Blk wx b 83 #[.slice (some ⟨g,0,none⟩) f.d.length cap,.int .i64 f.k])(ho:OwnB wx 0 (.slice (some ⟨g,0,none⟩) f.d.length cap) f.d)
  (hq:keepN c k (f.d.length-f.k)=q) (ht:tailC c k (f.d.drop f.k)=(f.d.drop f.k).take q) (hB:Below w.heap.size w wx) (hk:f.k≤f.d.length):FCr w b g cap f c k (.returned (.tuple #[])) (wx.setCell ⟨b,0,none⟩ (.slice (some ⟨g,0,none⟩) (f.k+q) cap)):=by
 have hle:=keepN_le c k (f.d.length-f.k);rw[hq] at hle
 refine⟨rfl,?_,?_,(KeptBut.of_below hB).then_set (.inl rfl)⟩
 ·rw[hq]
  simpa using hb.set_ 0 (.slice (some ⟨g,0,none⟩) (f.k+q) cap)
 ·rw[hq,ht];have e:f.d.take f.k++(f.d.drop f.k).take q=f.d.take (f.k+q):=List.take_add.symm;rw[e];rcases ho.cut (m:=f.k+q) (by omega) with h | ⟨h,_⟩
  ·exact own_block h fun j hj=>Below.heap_setCell _ _ _ _ (own_ne_blk h hb (by decide) j hj)
  ·cases h
theorem FCr.spoil_ {w wx:World}{b g cap q a sm:Nat}{f:Fil}{c:Cra}{k:Nat}(hb:Blk wx b 83 #[.slice (some ⟨g,0,none⟩) f.d.length cap,.int .i64 f.k]){m:Nat}(ho:OwnB wx 0 (.slice (some ⟨g,0,none⟩) f.d.length cap) (SPA f.d f.k q a sm m))
  (hkb:KeptBut w wx (fun j=>j=g)) (hq:keepN c k (f.d.length-f.k)=q) (ht:tailC c k (f.d.drop f.k)=SPk ((f.d.drop f.k).take q) a sm m) (hle:f.k+q≤f.d.length) :
  FCr w b g cap f c k (.returned (.tuple #[])) (wx.setCell ⟨b,0,none⟩ (.slice (some ⟨g,0,none⟩) (f.k+q) cap)):=by
 refine⟨rfl,?_,?_,(hkb.mono fun j _=>.inr).then_set (.inl rfl)⟩
 ·rw[hq]
  simpa using hb.set_ 0 (.slice (some ⟨g,0,none⟩) (f.k+q) cap)
 ·rw[hq,ht,←SPA_take hle];rcases ho.cut (m:=f.k+q) (by rw[SPA_len hle];omega) with h | ⟨h,_⟩
  ·exact own_block h fun j hj=>Below.heap_setCell _ _ _ _ (own_ne_blk h hb (by decide) j hj)
  ·cases h
set_option maxRecDepth 100000 in
set_option maxHeartbeats 4000000 in
theorem fcrash_any {w:World}{b g cap:Nat}{f:Fil}(hb:Blk w b 83 #[.slice (some ⟨g,0,none⟩) f.d.length cap,.int .i64 f.k])(ho:OwnB w 0 (.slice (some ⟨g,0,none⟩) f.d.length cap) f.d)
  (hk:f.k<f.d.length) (hl:f.d.length≤1048576) (c:Cra) (KA PA:Option Addr) (kc pc:Nat) (hc:CraAt w c KA PA) (hcap:f.d.length≤cap∧cap≤maxLen) (k:Nat) (hkk:k≤1073741824) (hA:∀ad,c.spoil≠[]→PA=some ad→ad.block≠b∧ad.block≠g) :
  Calls Tryz.prog 62 #[.pointer (some ⟨b,0,none⟩),craV c KA kc PA pc,.int .i64 k] w (FCr w b g cap f c k):=by
 have b0:=hb.cell 0;have b1:=hb.cell 1;have g0:=hb.frozen 0;have hbl:=hb.lt;have hcl:=hc.kl;have hpl:=hc.pl;have hb0:=hb;clear hb
 have hcap1:(f.d.length:Int)≤cap:=by omega
 have hcap2:(f.k:Int)≤cap:=by omega
 unfold craV
 by_cases h1:k<c.keep.length
 ·obtain⟨kad,rfl,hkb,hkc⟩:=hc.keep.2 (by omega);have hkc:=hkc k (.int .i64 c.keep[k]) (by unfold keepV;rw[List.getElem?_map,List.getElem?_eq_getElem h1];rfl);have hxb:=hc.kb _ (List.getElem_mem h1)
  have hkn:keepN c k (f.d.length-f.k)=(min (max c.keep[k] 0) ((f.d.length-f.k:Nat):Int)).toNat:=by unfold keepN;rw[List.getElem?_eq_getElem h1]
  generalize c.keep[k]=x at *
  obtain⟨x1,x2⟩:=hxb
  have h1':(k:Int)<(c.keep.length:Int):=by omega
  have hkd:(kad.add k).block<w.heap.size:=by rw[block_of_add];exact hkb
  have hsub:((f.d.length-f.k:Nat):Int)=(f.d.length:Int)-(f.k:Int):=by omega
  rw[hsub] at hkn;clear hsub;replace hkn:=Lib.hid hkn
  by_cases hx:x<0
  ·have hq:keepN c k (f.d.length-f.k)=0:=by rw[hkn.out];omega
   replace hq:=Lib.hid hq
   go_enter Tryz.func62,Tryz.ntmps62
   go_wp2_with fail
   have hA1:Below w.heap.size w (w.alloc (.cells #[.int .i64 c.names,.slice (some kad) c.keep.length kc,.slice PA c.spoil.length pc] 58)):=(Below.refl w.heap.size w).alloc (Nat.le_refl _) _;have hCb:Blk (w.alloc (.cells #[.int .i64 c.names,.slice (some kad) c.keep.length kc,.slice PA c.spoil.length pc] 58)) w.heap.size 58 #[.int .i64 c.names,.slice (some kad) c.keep.length kc,.slice PA c.spoil.length pc]:=Blk.new _ _ _
   generalize hw1:w.alloc (.cells #[.int .i64 c.names,.slice (some kad) c.keep.length kc,.slice PA c.spoil.length pc] 58)=w1 at *
   have hb1:=hb0.below hA1 hbl;have d0:=hb1.cell 0;have d1:=hb1.cell 1;have q1:=hCb.cell 1;have q2:=(hA1.cell (p:=kad.add k) hkd).trans hkc;have l1:=hCb.lt;have l2:=hb1.lt
   have l3:(kad.add k).block<w1.heap.size:=by omega
   have hxk:∀(x:Ext w1),x.w.cell? (kad.add k)=w1.cell? (kad.add k):=fun x=>x.below.cell l3;clear b0 b1 g0 hw1;have hxc:=@Ext.cell;have hxf:=@Ext.frozen;refine wp_hide (fun Q0 hQ0=>?_);refine wp_region_line (fun w'=>∃x:Ext _,w'=x.w) [some false,some false,some false,some false,some false,some false,some false,some false,some false,some false,some false,some false,some false,some false,some false,some false,some false,some false] 0 (by kernel_rfl) (by kernel_rfl) ⟨⟨_,(Below.refl _ _).drew⟩,rfl⟩ ?_;simp only[earlyL,tailL]
   repeat (first | ((with_reducible refine wpMix_p ?_);go_big_quiet_step (fail);refine wpQuiet_nil ?_) | ((with_reducible refine wpMix_e ?_);go_big_quiet_step ((first | fail));refine wpQuiet_nil ?_))
   refine wpMix_nil ?_;clear hxc hxf;intro wx hwx;obtain⟨x,hx⟩:=hwx;have hb:=x.below;rw[←hx] at hb;clear hx x;refine wpTail_nil ?_;refine hQ0 _ _ ?_;clear hQ0 Q0;have hx0:=hb1.below hb l2;have hBx:Below w.heap.size w wx:=hA1.trans (hb.mono (by omega));clear d0 d1 q1 q2 hxk hCb;have d0:=hx0.cell 0;have d1:=hx0.cell 1;have hxl:=hx0.lt;replace hBx:=Lib.hid hBx;clear hb;obtain⟨wy,hwy⟩:∃wy,wy=wx:=⟨_,rfl⟩;subst hwy;go_wp2_with fail
   have hxc:=@Ext.cell;have hxf:=@Ext.frozen;refine wp_hide (fun Q0 hQ0=>?_);refine wp_region_line (fun w'=>∃x:Ext _,w'=x.w) [some false,some false,some false,some false,some false,some false,some false,some false,some false,some false,some false,some false,some false,some false,some false,some false] 0 (by kernel_rfl) (by kernel_rfl) ⟨⟨_,(Below.refl _ _).drew⟩,rfl⟩ ?_;simp only[earlyL,tailL]
   repeat (first | ((with_reducible refine wpMix_p ?_);go_big_quiet_step (fail);refine wpQuiet_nil ?_) | ((with_reducible refine wpMix_e ?_);go_big_quiet_step ((first | fail));refine wpQuiet_nil ?_))
   refine wpMix_nil ?_;clear hxc hxf;intro wx hwx;obtain⟨x,hx⟩:=hwx;have hb:=x.below;rw[←hx] at hb;clear hx x;refine wpTail_nil ?_;refine hQ0 _ _ ?_;clear hQ0 Q0;have hy0:=hx0.below hb hxl;have hBy:Below w.heap.size w wx:=hBx.out.trans (hb.mono hBx.out.size);clear d0 d1 hb;have d0:=hy0.cell 0;have d1:=hy0.cell 1;have hyl:=hy0.lt;replace hBy:=Lib.hid hBy;obtain⟨wz,hwz⟩:∃wz,wz=wx:=⟨_,rfl⟩;subst hwz;go_wp2_with fail
   have hxc:=@Ext.cell;have hxf:=@Ext.frozen;refine wp_hide (fun Q0 hQ0=>?_);refine wp_region_line (fun w'=>∃x:Ext _,w'=x.w) [some false,some false,some false,some false,some false,some false,some false,some false,some false,some false,some false,some false,some false,some false,none] 0 (by kernel_rfl) (by kernel_rfl) ⟨⟨_,(Below.refl _ _).drew⟩,rfl⟩ ?_;simp only[earlyL,tailL]
   repeat (first | ((with_reducible refine wpMix_p ?_);go_big_quiet_step (fail);refine wpQuiet_nil ?_) | ((with_reducible refine wpMix_e ?_);go_big_quiet_step ((first | fail));refine wpQuiet_nil ?_))
   refine wpMix_nil ?_;clear hxc hxf;intro wx hwx;obtain⟨x,hx⟩:=hwx;have hb:=x.below;rw[←hx] at hb;clear hx x;have hz0:=hy0.below hb hyl;have z0:=hz0.cell 0;have z1:=hz0.frozen 0;have hBz:Below w.heap.size w wx:=hBy.out.trans (hb.mono hBy.out.size);have hfin:=FCr.none_ hz0 (own_block ho fun j hj=>hBz.block j ((own_lt ho j hj).2)) hk hq.out hBz;replace hfin:=Lib.hid hfin;clear d0 d1;refine wpTail_step ?_;intro Q1 hQ1
   go_wp2_with (fail)
   refine hQ1 _ _ rfl (fun h=>absurd h (by decide)) ?_;clear hQ1 Q1;refine wpTail_nil ?_;refine hQ0 _ _ ?_;clear hQ0 Q0
   go_end0
   exact hfin.out
  ·obtain⟨t,ht⟩:∃t:Nat,f.d.length=f.k+t:=⟨f.d.length-f.k,by omega⟩
   have hE:(f.d.length:Int)-(f.k:Int)=(t:Int):=by omega
   by_cases hxt:x≤(t:Int)
   ·obtain⟨q,rfl⟩:∃q:Nat,x=q:=⟨x.toNat,by omega⟩
    have hq:keepN c k (f.d.length-f.k)=q:=by rw[hkn.out];omega
    have hxt':(q:Int)≤(t:Int):=by omega
    have hqk:(f.k:Int)+(q:Int)≤cap:=by omega
    replace ht:=Lib.hid ht;replace hq:=Lib.hid hq
    go_enter Tryz.func62,Tryz.ntmps62
    go_wp2_with fail
    have hA1:Below w.heap.size w (w.alloc (.cells #[.int .i64 c.names,.slice (some kad) c.keep.length kc,.slice PA c.spoil.length pc] 58)):=(Below.refl w.heap.size w).alloc (Nat.le_refl _) _;have hCb:Blk (w.alloc (.cells #[.int .i64 c.names,.slice (some kad) c.keep.length kc,.slice PA c.spoil.length pc] 58)) w.heap.size 58 #[.int .i64 c.names,.slice (some kad) c.keep.length kc,.slice PA c.spoil.length pc]:=Blk.new _ _ _
    generalize hw1:w.alloc (.cells #[.int .i64 c.names,.slice (some kad) c.keep.length kc,.slice PA c.spoil.length pc] 58)=w1 at *
    have hb1:=hb0.below hA1 hbl;have d0:=hb1.cell 0;have d1:=hb1.cell 1;have q1:=hCb.cell 1;have q2:=(hA1.cell (p:=kad.add k) hkd).trans hkc;have l1:=hCb.lt;have l2:=hb1.lt
    have l3:(kad.add k).block<w1.heap.size:=by omega
    have hxk:∀(x:Ext w1),x.w.cell? (kad.add k)=w1.cell? (kad.add k):=fun x=>x.below.cell l3;clear b0 b1 g0 hw1;have hxc:=@Ext.cell;have hxf:=@Ext.frozen;refine wp_hide (fun Q0 hQ0=>?_);refine wp_region_line (fun w'=>∃x:Ext _,w'=x.w) [some false,some false,some false,some false,some false,some false,some false,some false,some false,some false,some false,some false,some false,some false,some false,some false,some false,some false] 0 (by kernel_rfl) (by kernel_rfl) ⟨⟨_,(Below.refl _ _).drew⟩,rfl⟩ ?_;simp only[earlyL,tailL]
    repeat (first | ((with_reducible refine wpMix_p ?_);go_big_quiet_step (fail);refine wpQuiet_nil ?_) | ((with_reducible refine wpMix_e ?_);go_big_quiet_step ((first | fail));refine wpQuiet_nil ?_))
    refine wpMix_nil ?_;clear hxc hxf;intro wx hwx;obtain⟨x,hx⟩:=hwx;have hb:=x.below;rw[←hx] at hb;clear hx x;refine wpTail_nil ?_;refine hQ0 _ _ ?_;clear hQ0 Q0;have hx0:=hb1.below hb l2;have hBx:Below w.heap.size w wx:=hA1.trans (hb.mono (by omega));have hCx:=hCb.below hb l1;clear d0 d1 q1 q2 hxk hCb;have lCx:=hCx.lt;have d0:=hx0.cell 0;have d1:=hx0.cell 1;have hxl:=hx0.lt;replace hBx:=Lib.hid hBx;clear hb;obtain⟨wy,hwy⟩:∃wy,wy=wx:=⟨_,rfl⟩;subst hwy;go_wp2_with fail
    have hxc:=@Ext.cell;have hxf:=@Ext.frozen;refine wp_hide (fun Q0 hQ0=>?_);refine wp_region_line (fun w'=>∃x:Ext _,w'=x.w) [some false,some false,some false,some false,some false,some false,some false,some false,some false,some false,some false,some false,some false,some false,some false,some false] 0 (by kernel_rfl) (by kernel_rfl) ⟨⟨_,(Below.refl _ _).drew⟩,rfl⟩ ?_;simp only[earlyL,tailL]
    repeat (first | ((with_reducible refine wpMix_p ?_);go_big_quiet_step (fail);refine wpQuiet_nil ?_) | ((with_reducible refine wpMix_e ?_);go_big_quiet_step ((first | fail));refine wpQuiet_nil ?_))
    refine wpMix_nil ?_;clear hxc hxf;intro wx hwx;obtain⟨x,hx⟩:=hwx;have hb:=x.below;rw[←hx] at hb;clear hx x;refine wpTail_nil ?_;refine hQ0 _ _ ?_;clear hQ0 Q0;have hy0:=hx0.below hb hxl;have hCy:=hCx.below hb lCx;have lCy:=hCy.lt;have cy2:=hCy.cell 2;have hBy:Below w.heap.size w wx:=hBx.out.trans (hb.mono hBx.out.size);clear d0 d1 hb;have d0:=hy0.cell 0;have d1:=hy0.cell 1;have hyl:=hy0.lt;replace hBy:=Lib.hid hBy
    by_cases hq0:q=0
    ·have htl:tailC c k (f.d.drop f.k)=(f.d.drop f.k).take q:=by rw[tailC_nil (by rw[List.length_drop,hq.out,hq0]),hq0];rfl
     replace htl:=Lib.hid htl
     have hq0':¬(0:Int)<(q:Int):=by omega
     replace hq0:=Lib.hid hq0;obtain⟨wz,hwz⟩:∃wz,wz=wx:=⟨_,rfl⟩;subst hwz;go_wp2_with fail
     have hxc:=@Ext.cell;have hxf:=@Ext.frozen;refine wp_hide (fun Q0 hQ0=>?_);refine wp_region_line (fun w'=>∃x:Ext _,w'=x.w) [some false,some false,some false,some false,some false,some false,some false,some false,some false,some false,some false,some false,some false,some false,none] 0 (by kernel_rfl) (by kernel_rfl) ⟨⟨_,(Below.refl _ _).drew⟩,rfl⟩ ?_;simp only[earlyL,tailL]
     repeat (first | ((with_reducible refine wpMix_p ?_);go_big_quiet_step (fail);refine wpQuiet_nil ?_) | ((with_reducible refine wpMix_e ?_);go_big_quiet_step ((first | fail));refine wpQuiet_nil ?_))
     refine wpMix_nil ?_;clear hxc hxf;intro wx hwx;obtain⟨x,hx⟩:=hwx;have hb:=x.below;rw[←hx] at hb;clear hx x;have hz0:=hy0.below hb hyl;have z0:=hz0.cell 0;have z1:=hz0.frozen 0;have hBz:Below w.heap.size w wx:=hBy.out.trans (hb.mono hBy.out.size);have hfin:=FCr.plain_ hz0 (own_block ho fun j hj=>hBz.block j ((own_lt ho j hj).2)) hq.out htl.out hBz (by omega);replace hfin:=Lib.hid hfin;clear d0 d1;refine wpTail_step ?_;intro Q1 hQ1
     go_wp2_with (fail)
     refine hQ1 _ _ rfl (fun h=>absurd h (by decide)) ?_;clear hQ1 Q1;refine wpTail_nil ?_;refine hQ0 _ _ ?_;clear hQ0 Q0
     go_end0
     exact hfin.out
    ·have hq0':(0:Int)<(q:Int):=by omega
     by_cases hsp:k<c.spoil.length
     ·obtain⟨pad,rfl,hpb,hpc⟩:=hc.spoil.2 (by omega)
      have hspn:c.spoil≠[]:=by
       intro e;rw[e] at hsp;simp at hsp
      have hs1:=spoilV_at c.spoil k _ (List.getElem?_eq_getElem hsp);have hs2:c.spoil[k]? = some c.spoil[k]:=List.getElem?_eq_getElem hsp;have p0:=hpc _ _ hs1.1;have p1:=hpc _ _ hs1.2;obtain⟨pb,po,rfl⟩:=plain_add (hpc 0 _ (spoilV_at c.spoil 0 _ (List.getElem?_eq_getElem (by omega))).1);simp only[add_plain2] at p0 p1;rw[←Nat.add_assoc] at p1;have hpd:=hc.pb _ (List.getElem_mem hsp)
      generalize c.spoil[k]=y at *
      obtain⟨sa,sm⟩:=y;simp only[] at p0 p1 hpd;obtain⟨pa1,pa2,pm⟩:=hpd
      have hsp':(k:Int)<(c.spoil.length:Int):=by omega
      replace hpb:pb<w.heap.size:=hpb;have hpg:pb≠g:=(hA _ hspn rfl).2;replace p0:=(hBy.out.cell (p:=⟨pb,po+k*2,none⟩) hpb).trans p0;replace p1:=(hBy.out.cell (p:=⟨pb,po+k*2+1,none⟩) hpb).trans p1
      have hq20:q≤1048576:=by have:=ht.out;omega
      have hat:=at_eq sa q (by omega) hq20
      have haq:(sa % (q:Int)).toNat<q:=by have:=Int.emod_lt_of_pos sa (b:=(q:Int)) (by omega);have:=Int.emod_nonneg sa (b:=(q:Int)) (by omega);omega
      generalize haa:(sa % (q:Int)).toNat=a at *
      have hgl:=(own_lt ho g rfl).2;have hgb:g≠b:=own_ne_blk ho hb0 (by decide) g rfl;have hoy:OwnB wx 0 (.slice (some ⟨g,0,none⟩) f.d.length cap) f.d:=own_block ho fun j hj=>hBy.out.block j ((own_lt ho j hj).2)
      have hTl:((f.d.drop f.k).take q).length=q:=by rw[List.length_take,List.length_drop];have:=ht.out;omega
      have hlx:f.k+q≤f.d.length:=by have:=ht.out;omega
      have htc:tailC c k (f.d.drop f.k)=SPk ((f.d.drop f.k).take q) a sm (min 4 (q-a)):=tailC_spoil (by rw[List.length_drop];exact hq.out) hTl (by omega) hs2 haa
      have hsp0:OwnB wx 0 (.slice (some ⟨g,0,none⟩) f.d.length cap) (SPA f.d f.k q a sm 0):=by rw[SPA_zero];exact hoy
      have hstep:=fun (wr:World) (j:Nat) (hj:a+j<q) (ho:OwnB wr 0 (.slice (some ⟨g,0,none⟩) f.d.length cap) (SPA f.d f.k q a sm j))=>SPA_step hlx ho hj;have hfin:=fun (wr:World) (hb:Blk wr b 83 #[.slice (some ⟨g,0,none⟩) f.d.length cap,.int .i64 f.k]) (ho:OwnB wr 0 (.slice (some ⟨g,0,none⟩) f.d.length cap) (SPA f.d f.k q a sm (min 4 (q-a)))) (hk:KeptBut w wr (fun j=>j=g))=>FCr.spoil_ (c:=c) (k:=k) hb ho hk hq.out htc hlx;replace hoy:=Lib.hid hoy;replace hq:=Lib.hid hq.out;replace haa:=Lib.hid haa;replace hs2:=Lib.hid hs2;replace hs1:=Lib.hid hs1;replace htc:=Lib.hid htc;replace hTl:=Lib.hid hTl;replace hsp0:=Lib.hid hsp0;replace hstep:=Lib.hid hstep;replace hfin:=Lib.hid hfin
      by_cases h4:4≤q-a
      ·have h4':¬(q:Int)-(a:Int)<4:=by omega
       have h4'':(4:Int)≤(q:Int)-(a:Int):=by omega
       have hm4:min 4 (q-a)=4:=by omega
       rw[hm4] at hfin;obtain⟨wv,hwv⟩:∃wv,wv=wx:=⟨_,rfl⟩;subst hwv;have hkv:=Lib.hid ((KeptBut.of_below hBy.out (S:=fun z=>z=g)));go_wp2_with fail
       go_loopw [72] (fun i wr=>∃j:Nat,j≤4∧i=.int .i64 j∧OwnB wr 0 (.slice (some ⟨g,0,none⟩) f.d.length cap) (SPA f.d f.k q a sm j)∧KeptBut wv wr (fun z=>z=g)) (fun i _=>4-(intOf i).toNat)
       case atStart=>exact⟨0,Nat.zero_le _,rfl,hsp0.out,KeptBut.refl _ _⟩
       case round =>
        obtain⟨j,hj,rfl,hoj,hkj⟩:=hrel
        have hgr:g<wr.heap.size:=by have:=hBy.out.size;have:=hkj.size;omega
        by_cases hlt:j<4
        ·have hlt':(j:Int)<(4:Int):=by omega
         obtain⟨x,e1,e2,_⟩:=hstep.out wr j (by omega) hoj;have cr2:=(hkj.cell ⟨w.heap.size,2,none⟩ lCy (by simp;omega)).trans cy2;have pr1:=(hkj.cell ⟨pb,po+k*2+1,none⟩ (by show pb<_;have:=hBy.out.size;omega) hpg).trans p1
         have hwr:w.heap.size<wr.heap.size:=by have:=hkj.size;omega
         have hpr:pb<wr.heap.size:=by have:=hBy.out.size;have:=hkj.size;omega
         unfold B8 at e1;replace hoj:=Lib.hid hoj;clear d0 d1 cy2 p0 p1
         have haj:(f.k:Int)+((a:Int)+(j:Int))<f.d.length:=by omega
         have haq':(a:Int)+(j:Int)<q:=by omega
         have hxb:=Lib.hid (xor_bits x sm j pm (by omega));go_wp2_with fail
         have hxc:=@Ext.cell;have hxf:=@Ext.frozen;refine wp_hide (fun Q0 hQ0=>?_);refine wp_region_line (fun w'=>∃x:Ext _,w'=x.w) [some false,some false,some false,some false,some false,some false,some false,some false,some false,some false,some false,some false,some false,some false,some false,some false,some false,some false,none] 0 (by kernel_rfl) (by kernel_rfl) ⟨⟨_,(Below.refl _ _).drew⟩,rfl⟩ ?_;simp only[earlyL,tailL]
         repeat (first | ((with_reducible refine wpMix_p ?_);go_big_quiet_step (fail);refine wpQuiet_nil ?_) | ((with_reducible refine wpMix_e ?_);go_big_quiet_step ((first | fail));refine wpQuiet_nil ?_))
         refine wpMix_nil ?_;clear hxc hxf;intro wx hwx;obtain⟨x,hx⟩:=hwx;have hb:=x.below;rw[←hx] at hb;clear hx x;have hox:=own_block hoj.out fun i hi=>hb.block i ((own_lt hoj.out i hi).2);obtain⟨x',e1',e2',ho1⟩:=hstep.out wx j (by omega) hox;have hbe:=(hb.cell (p:=⟨g,f.k+(a+j),none⟩) hgr).trans e1
         have hxx:x'=x:=by
          rw[hbe] at e1';unfold B8 at e1';simp only[Option.some.injEq,Value.int.injEq,true_and] at e1';exact UInt8.toNat_inj.1 (by omega)
         subst hxx
         have hkx:=(hkj.then_below hb).then_set (b:=g) (o:=f.k+(a+j)) (v:=B8 (x' ^^^ UInt8.ofNat (sm / 2 ^ (8*j)))) rfl
         rw[hxb.out];unfold B8 at ho1 hkx;replace ho1:=Lib.hid ho1;replace hox:=Lib.hid hox;replace hoj:=Lib.hid hoj;replace hkx:=Lib.hid hkx;clear e1 e2 hb hxb e1';refine wpTail_step ?_;intro Q1 hQ1
         go_wp2_with (fail)
         refine hQ1 _ _ rfl (fun h=>absurd h (by decide)) ?_;clear hQ1 Q1;refine wpTail_nil ?_;refine hQ0 _ _ ?_;clear hQ0 Q0;go_wp2_with fail
         go_roundw
         case rel=>exact⟨j+1,by omega,by rfl,ho1.out,hkx.out⟩
         case measure=>first | omega | (simp only[intOf];omega) | (trace_state;fail)
        ·obtain rfl:j=4:=by omega
         have hlt':¬((4:Nat):Int)<(4:Int):=by omega
         have hr0:=hy0.keptB hkj (fun e=>hgb e.symm);clear d0 d1;have d0:=hr0.cell 0;have d1:=hr0.cell 1;have hrl:=hr0.lt;replace hoj:=Lib.hid hoj;go_wp2_with fail
         have hxc:=@Ext.cell;have hxf:=@Ext.frozen;refine wp_hide (fun Q0 hQ0=>?_);refine wp_region_line (fun w'=>∃x:Ext _,w'=x.w) [some false,some false,some false,some false,some false,some false,some false,some false,some false,some false,some false,some false,some false,some false,none] 0 (by kernel_rfl) (by kernel_rfl) ⟨⟨_,(Below.refl _ _).drew⟩,rfl⟩ ?_;simp only[earlyL,tailL]
         repeat (first | ((with_reducible refine wpMix_p ?_);go_big_quiet_step (fail);refine wpQuiet_nil ?_) | ((with_reducible refine wpMix_e ?_);go_big_quiet_step ((first | fail));refine wpQuiet_nil ?_))
         refine wpMix_nil ?_;clear hxc hxf;intro wx hwx;obtain⟨x,hx⟩:=hwx;have hb:=x.below;rw[←hx] at hb;clear hx x;have hz0:=hr0.below hb hrl;have z0:=hz0.cell 0;have z1:=hz0.frozen 0
         have hfin:=hfin.out wx hz0 (own_block hoj.out fun i hi=>hb.block i ((own_lt hoj.out i hi).2)) ((hkv.out.trans hkj (fun _ _ e=>e)).then_below hb)
         replace hfin:=Lib.hid hfin;clear d0 d1;refine wpTail_step ?_;intro Q1 hQ1
         go_wp2_with (fail)
         refine hQ1 _ _ rfl (fun h=>absurd h (by decide)) ?_;clear hQ1 Q1;refine wpTail_nil ?_;refine hQ0 _ _ ?_;clear hQ0 Q0
         go_end0
         exact hfin.out
      ·have h4':(q:Int)-(a:Int)<4:=by omega
       have h4'':¬(4:Int)≤(q:Int)-(a:Int):=by omega
       have hm4:min 4 (q-a)=(q-a):=by omega
       rw[hm4] at hfin;obtain⟨wv,hwv⟩:∃wv,wv=wx:=⟨_,rfl⟩;subst hwv;have hkv:=Lib.hid ((KeptBut.of_below hBy.out (S:=fun z=>z=g)));go_wp2_with fail
       go_loopw [72] (fun i wr=>∃j:Nat,j≤(q-a)∧i=.int .i64 j∧OwnB wr 0 (.slice (some ⟨g,0,none⟩) f.d.length cap) (SPA f.d f.k q a sm j)∧KeptBut wv wr (fun z=>z=g)) (fun i _=>(q-a)-(intOf i).toNat)
       case atStart=>exact⟨0,Nat.zero_le _,rfl,hsp0.out,KeptBut.refl _ _⟩
       case round =>
        obtain⟨j,hj,rfl,hoj,hkj⟩:=hrel
        have hgr:g<wr.heap.size:=by have:=hBy.out.size;have:=hkj.size;omega
        by_cases hlt:j<(q-a)
        ·have hlt':(j:Int)<(q:Int)-(a:Int):=by omega
         obtain⟨x,e1,e2,_⟩:=hstep.out wr j (by omega) hoj;have cr2:=(hkj.cell ⟨w.heap.size,2,none⟩ lCy (by simp;omega)).trans cy2;have pr1:=(hkj.cell ⟨pb,po+k*2+1,none⟩ (by show pb<_;have:=hBy.out.size;omega) hpg).trans p1
         have hwr:w.heap.size<wr.heap.size:=by have:=hkj.size;omega
         have hpr:pb<wr.heap.size:=by have:=hBy.out.size;have:=hkj.size;omega
         unfold B8 at e1;replace hoj:=Lib.hid hoj;clear d0 d1 cy2 p0 p1
         have haj:(f.k:Int)+((a:Int)+(j:Int))<f.d.length:=by omega
         have haq':(a:Int)+(j:Int)<q:=by omega
         have hxb:=Lib.hid (xor_bits x sm j pm (by omega));go_wp2_with fail
         have hxc:=@Ext.cell;have hxf:=@Ext.frozen;refine wp_hide (fun Q0 hQ0=>?_);refine wp_region_line (fun w'=>∃x:Ext _,w'=x.w) [some false,some false,some false,some false,some false,some false,some false,some false,some false,some false,some false,some false,some false,some false,some false,some false,some false,some false,none] 0 (by kernel_rfl) (by kernel_rfl) ⟨⟨_,(Below.refl _ _).drew⟩,rfl⟩ ?_;simp only[earlyL,tailL]
         repeat (first | ((with_reducible refine wpMix_p ?_);go_big_quiet_step (fail);refine wpQuiet_nil ?_) | ((with_reducible refine wpMix_e ?_);go_big_quiet_step ((first | fail));refine wpQuiet_nil ?_))
         refine wpMix_nil ?_;clear hxc hxf;intro wx hwx;obtain⟨x,hx⟩:=hwx;have hb:=x.below;rw[←hx] at hb;clear hx x;have hox:=own_block hoj.out fun i hi=>hb.block i ((own_lt hoj.out i hi).2);obtain⟨x',e1',e2',ho1⟩:=hstep.out wx j (by omega) hox;have hbe:=(hb.cell (p:=⟨g,f.k+(a+j),none⟩) hgr).trans e1
         have hxx:x'=x:=by
          rw[hbe] at e1';unfold B8 at e1';simp only[Option.some.injEq,Value.int.injEq,true_and] at e1';exact UInt8.toNat_inj.1 (by omega)
         subst hxx
         have hkx:=(hkj.then_below hb).then_set (b:=g) (o:=f.k+(a+j)) (v:=B8 (x' ^^^ UInt8.ofNat (sm / 2 ^ (8*j)))) rfl
         rw[hxb.out];unfold B8 at ho1 hkx;replace ho1:=Lib.hid ho1;replace hox:=Lib.hid hox;replace hoj:=Lib.hid hoj;replace hkx:=Lib.hid hkx;clear e1 e2 hb hxb e1';refine wpTail_step ?_;intro Q1 hQ1
         go_wp2_with (fail)
         refine hQ1 _ _ rfl (fun h=>absurd h (by decide)) ?_;clear hQ1 Q1;refine wpTail_nil ?_;refine hQ0 _ _ ?_;clear hQ0 Q0;go_wp2_with fail
         go_roundw
         case rel=>exact⟨j+1,by omega,by rfl,ho1.out,hkx.out⟩
         case measure=>first | omega | (simp only[intOf];omega) | (trace_state;fail)
        ·obtain rfl:j=(q-a):=by omega
         have hlt':¬(((q-a):Nat):Int)<(q:Int)-(a:Int):=by omega
         have hr0:=hy0.keptB hkj (fun e=>hgb e.symm);clear d0 d1;have d0:=hr0.cell 0;have d1:=hr0.cell 1;have hrl:=hr0.lt;replace hoj:=Lib.hid hoj;go_wp2_with fail
         have hxc:=@Ext.cell;have hxf:=@Ext.frozen;refine wp_hide (fun Q0 hQ0=>?_);refine wp_region_line (fun w'=>∃x:Ext _,w'=x.w) [some false,some false,some false,some false,some false,some false,some false,some false,some false,some false,some false,some false,some false,some false,none] 0 (by kernel_rfl) (by kernel_rfl) ⟨⟨_,(Below.refl _ _).drew⟩,rfl⟩ ?_;simp only[earlyL,tailL]
         repeat (first | ((with_reducible refine wpMix_p ?_);go_big_quiet_step (fail);refine wpQuiet_nil ?_) | ((with_reducible refine wpMix_e ?_);go_big_quiet_step ((first | fail));refine wpQuiet_nil ?_))
         refine wpMix_nil ?_;clear hxc hxf;intro wx hwx;obtain⟨x,hx⟩:=hwx;have hb:=x.below;rw[←hx] at hb;clear hx x;have hz0:=hr0.below hb hrl;have z0:=hz0.cell 0;have z1:=hz0.frozen 0
         have hfin:=hfin.out wx hz0 (own_block hoj.out fun i hi=>hb.block i ((own_lt hoj.out i hi).2)) ((hkv.out.trans hkj (fun _ _ e=>e)).then_below hb)
         replace hfin:=Lib.hid hfin;clear d0 d1;refine wpTail_step ?_;intro Q1 hQ1
         go_wp2_with (fail)
         refine hQ1 _ _ rfl (fun h=>absurd h (by decide)) ?_;clear hQ1 Q1;refine wpTail_nil ?_;refine hQ0 _ _ ?_;clear hQ0 Q0
         go_end0
         exact hfin.out
     ·have htl:tailC c k (f.d.drop f.k)=(f.d.drop f.k).take q:=by
       unfold tailC;simp only[];rw[List.length_drop,hq.out,List.getElem?_eq_none (by omega)]
       split<;>rfl
      replace htl:=Lib.hid htl
      have hsp':¬(k:Int)<(c.spoil.length:Int):=by omega
      replace hq0:=Lib.hid hq0;obtain⟨wz,hwz⟩:∃wz,wz=wx:=⟨_,rfl⟩;subst hwz;go_wp2_with fail
      have hxc:=@Ext.cell;have hxf:=@Ext.frozen;refine wp_hide (fun Q0 hQ0=>?_);refine wp_region_line (fun w'=>∃x:Ext _,w'=x.w) [some false,some false,some false,some false,some false,some false,some false,some false,some false,some false,some false,some false,some false,some false,none] 0 (by kernel_rfl) (by kernel_rfl) ⟨⟨_,(Below.refl _ _).drew⟩,rfl⟩ ?_;simp only[earlyL,tailL]
      repeat (first | ((with_reducible refine wpMix_p ?_);go_big_quiet_step (fail);refine wpQuiet_nil ?_) | ((with_reducible refine wpMix_e ?_);go_big_quiet_step ((first | fail));refine wpQuiet_nil ?_))
      refine wpMix_nil ?_;clear hxc hxf;intro wx hwx;obtain⟨x,hx⟩:=hwx;have hb:=x.below;rw[←hx] at hb;clear hx x;have hz0:=hy0.below hb hyl;have z0:=hz0.cell 0;have z1:=hz0.frozen 0;have hBz:Below w.heap.size w wx:=hBy.out.trans (hb.mono hBy.out.size);have hfin:=FCr.plain_ hz0 (own_block ho fun j hj=>hBz.block j ((own_lt ho j hj).2)) hq.out htl.out hBz (by omega);replace hfin:=Lib.hid hfin;clear d0 d1;refine wpTail_step ?_;intro Q1 hQ1
      go_wp2_with (fail)
      refine hQ1 _ _ rfl (fun h=>absurd h (by decide)) ?_;clear hQ1 Q1;refine wpTail_nil ?_;refine hQ0 _ _ ?_;clear hQ0 Q0
      go_end0
      exact hfin.out
   ·skip
    have hq:keepN c k (f.d.length-f.k)=t:=by rw[hkn.out];omega
    have hxt':(t:Int)<x:=by omega
    have hqk:(f.k:Int)+(t:Int)≤cap:=by omega
    replace ht:=Lib.hid ht;replace hq:=Lib.hid hq
    go_enter Tryz.func62,Tryz.ntmps62
    go_wp2_with fail
    have hA1:Below w.heap.size w (w.alloc (.cells #[.int .i64 c.names,.slice (some kad) c.keep.length kc,.slice PA c.spoil.length pc] 58)):=(Below.refl w.heap.size w).alloc (Nat.le_refl _) _;have hCb:Blk (w.alloc (.cells #[.int .i64 c.names,.slice (some kad) c.keep.length kc,.slice PA c.spoil.length pc] 58)) w.heap.size 58 #[.int .i64 c.names,.slice (some kad) c.keep.length kc,.slice PA c.spoil.length pc]:=Blk.new _ _ _
    generalize hw1:w.alloc (.cells #[.int .i64 c.names,.slice (some kad) c.keep.length kc,.slice PA c.spoil.length pc] 58)=w1 at *
    have hb1:=hb0.below hA1 hbl;have d0:=hb1.cell 0;have d1:=hb1.cell 1;have q1:=hCb.cell 1;have q2:=(hA1.cell (p:=kad.add k) hkd).trans hkc;have l1:=hCb.lt;have l2:=hb1.lt
    have l3:(kad.add k).block<w1.heap.size:=by omega
    have hxk:∀(x:Ext w1),x.w.cell? (kad.add k)=w1.cell? (kad.add k):=fun x=>x.below.cell l3;clear b0 b1 g0 hw1;have hxc:=@Ext.cell;have hxf:=@Ext.frozen;refine wp_hide (fun Q0 hQ0=>?_);refine wp_region_line (fun w'=>∃x:Ext _,w'=x.w) [some false,some false,some false,some false,some false,some false,some false,some false,some false,some false,some false,some false,some false,some false,some false,some false,some false,some false] 0 (by kernel_rfl) (by kernel_rfl) ⟨⟨_,(Below.refl _ _).drew⟩,rfl⟩ ?_;simp only[earlyL,tailL]
    repeat (first | ((with_reducible refine wpMix_p ?_);go_big_quiet_step (fail);refine wpQuiet_nil ?_) | ((with_reducible refine wpMix_e ?_);go_big_quiet_step ((first | fail));refine wpQuiet_nil ?_))
    refine wpMix_nil ?_;clear hxc hxf;intro wx hwx;obtain⟨x,hx⟩:=hwx;have hb:=x.below;rw[←hx] at hb;clear hx x;refine wpTail_nil ?_;refine hQ0 _ _ ?_;clear hQ0 Q0;have hx0:=hb1.below hb l2;have hBx:Below w.heap.size w wx:=hA1.trans (hb.mono (by omega));have hCx:=hCb.below hb l1;clear d0 d1 q1 q2 hxk hCb;have lCx:=hCx.lt;have d0:=hx0.cell 0;have d1:=hx0.cell 1;have hxl:=hx0.lt;replace hBx:=Lib.hid hBx;clear hb;obtain⟨wy,hwy⟩:∃wy,wy=wx:=⟨_,rfl⟩;subst hwy;go_wp2_with fail
    have hxc:=@Ext.cell;have hxf:=@Ext.frozen;refine wp_hide (fun Q0 hQ0=>?_);refine wp_region_line (fun w'=>∃x:Ext _,w'=x.w) [some false,some false,some false,some false,some false,some false,some false,some false,some false,some false,some false,some false,some false,some false,some false,some false] 0 (by kernel_rfl) (by kernel_rfl) ⟨⟨_,(Below.refl _ _).drew⟩,rfl⟩ ?_;simp only[earlyL,tailL]
    repeat (first | ((with_reducible refine wpMix_p ?_);go_big_quiet_step (fail);refine wpQuiet_nil ?_) | ((with_reducible refine wpMix_e ?_);go_big_quiet_step ((first | fail));refine wpQuiet_nil ?_))
    refine wpMix_nil ?_;clear hxc hxf;intro wx hwx;obtain⟨x,hx⟩:=hwx;have hb:=x.below;rw[←hx] at hb;clear hx x;refine wpTail_nil ?_;refine hQ0 _ _ ?_;clear hQ0 Q0;have hy0:=hx0.below hb hxl;have hCy:=hCx.below hb lCx;have lCy:=hCy.lt;have cy2:=hCy.cell 2;have hBy:Below w.heap.size w wx:=hBx.out.trans (hb.mono hBx.out.size);clear d0 d1 hb;have d0:=hy0.cell 0;have d1:=hy0.cell 1;have hyl:=hy0.lt;replace hBy:=Lib.hid hBy
    by_cases hq0:t=0
    ·have:=ht.out;omega
    ·have hq0':(0:Int)<(t:Int):=by omega
     by_cases hsp:k<c.spoil.length
     ·obtain⟨pad,rfl,hpb,hpc⟩:=hc.spoil.2 (by omega)
      have hspn:c.spoil≠[]:=by
       intro e;rw[e] at hsp;simp at hsp
      have hs1:=spoilV_at c.spoil k _ (List.getElem?_eq_getElem hsp);have hs2:c.spoil[k]? = some c.spoil[k]:=List.getElem?_eq_getElem hsp;have p0:=hpc _ _ hs1.1;have p1:=hpc _ _ hs1.2;obtain⟨pb,po,rfl⟩:=plain_add (hpc 0 _ (spoilV_at c.spoil 0 _ (List.getElem?_eq_getElem (by omega))).1);simp only[add_plain2] at p0 p1;rw[←Nat.add_assoc] at p1;have hpd:=hc.pb _ (List.getElem_mem hsp)
      generalize c.spoil[k]=y at *
      obtain⟨sa,sm⟩:=y;simp only[] at p0 p1 hpd;obtain⟨pa1,pa2,pm⟩:=hpd
      have hsp':(k:Int)<(c.spoil.length:Int):=by omega
      replace hpb:pb<w.heap.size:=hpb;have hpg:pb≠g:=(hA _ hspn rfl).2;replace p0:=(hBy.out.cell (p:=⟨pb,po+k*2,none⟩) hpb).trans p0;replace p1:=(hBy.out.cell (p:=⟨pb,po+k*2+1,none⟩) hpb).trans p1
      have hq20:t≤1048576:=by have:=ht.out;omega
      have hat:=at_eq sa t (by omega) hq20
      have haq:(sa % (t:Int)).toNat<t:=by have:=Int.emod_lt_of_pos sa (b:=(t:Int)) (by omega);have:=Int.emod_nonneg sa (b:=(t:Int)) (by omega);omega
      generalize haa:(sa % (t:Int)).toNat=a at *
      have hgl:=(own_lt ho g rfl).2;have hgb:g≠b:=own_ne_blk ho hb0 (by decide) g rfl;have hoy:OwnB wx 0 (.slice (some ⟨g,0,none⟩) f.d.length cap) f.d:=own_block ho fun j hj=>hBy.out.block j ((own_lt ho j hj).2)
      have hTl:((f.d.drop f.k).take t).length=t:=by rw[List.length_take,List.length_drop];have:=ht.out;omega
      have hlx:f.k+t≤f.d.length:=by have:=ht.out;omega
      have htc:tailC c k (f.d.drop f.k)=SPk ((f.d.drop f.k).take t) a sm (min 4 (t-a)):=tailC_spoil (by rw[List.length_drop];exact hq.out) hTl (by omega) hs2 haa
      have hsp0:OwnB wx 0 (.slice (some ⟨g,0,none⟩) f.d.length cap) (SPA f.d f.k t a sm 0):=by rw[SPA_zero];exact hoy
      have hstep:=fun (wr:World) (j:Nat) (hj:a+j<t) (ho:OwnB wr 0 (.slice (some ⟨g,0,none⟩) f.d.length cap) (SPA f.d f.k t a sm j))=>SPA_step hlx ho hj;have hfin:=fun (wr:World) (hb:Blk wr b 83 #[.slice (some ⟨g,0,none⟩) f.d.length cap,.int .i64 f.k]) (ho:OwnB wr 0 (.slice (some ⟨g,0,none⟩) f.d.length cap) (SPA f.d f.k t a sm (min 4 (t-a)))) (hk:KeptBut w wr (fun j=>j=g))=>FCr.spoil_ (c:=c) (k:=k) hb ho hk hq.out htc hlx;replace hoy:=Lib.hid hoy;replace hq:=Lib.hid hq.out;replace haa:=Lib.hid haa;replace hs2:=Lib.hid hs2;replace hs1:=Lib.hid hs1;replace htc:=Lib.hid htc;replace hTl:=Lib.hid hTl;replace hsp0:=Lib.hid hsp0;replace hstep:=Lib.hid hstep;replace hfin:=Lib.hid hfin
      by_cases h4:4≤t-a
      ·have h4':¬(t:Int)-(a:Int)<4:=by omega
       have h4'':(4:Int)≤(t:Int)-(a:Int):=by omega
       have hm4:min 4 (t-a)=4:=by omega
       rw[hm4] at hfin;obtain⟨wv,hwv⟩:∃wv,wv=wx:=⟨_,rfl⟩;subst hwv;have hkv:=Lib.hid ((KeptBut.of_below hBy.out (S:=fun z=>z=g)));go_wp2_with fail
       go_loopw [72] (fun i wr=>∃j:Nat,j≤4∧i=.int .i64 j∧OwnB wr 0 (.slice (some ⟨g,0,none⟩) f.d.length cap) (SPA f.d f.k t a sm j)∧KeptBut wv wr (fun z=>z=g)) (fun i _=>4-(intOf i).toNat)
       case atStart=>exact⟨0,Nat.zero_le _,rfl,hsp0.out,KeptBut.refl _ _⟩
       case round =>
        obtain⟨j,hj,rfl,hoj,hkj⟩:=hrel
        have hgr:g<wr.heap.size:=by have:=hBy.out.size;have:=hkj.size;omega
        by_cases hlt:j<4
        ·have hlt':(j:Int)<(4:Int):=by omega
         obtain⟨x,e1,e2,_⟩:=hstep.out wr j (by omega) hoj;have cr2:=(hkj.cell ⟨w.heap.size,2,none⟩ lCy (by simp;omega)).trans cy2;have pr1:=(hkj.cell ⟨pb,po+k*2+1,none⟩ (by show pb<_;have:=hBy.out.size;omega) hpg).trans p1
         have hwr:w.heap.size<wr.heap.size:=by have:=hkj.size;omega
         have hpr:pb<wr.heap.size:=by have:=hBy.out.size;have:=hkj.size;omega
         unfold B8 at e1;replace hoj:=Lib.hid hoj;clear d0 d1 cy2 p0 p1
         have haj:(f.k:Int)+((a:Int)+(j:Int))<f.d.length:=by omega
         have haq':(a:Int)+(j:Int)<t:=by omega
         have hxb:=Lib.hid (xor_bits x sm j pm (by omega));go_wp2_with fail
         have hxc:=@Ext.cell;have hxf:=@Ext.frozen;refine wp_hide (fun Q0 hQ0=>?_);refine wp_region_line (fun w'=>∃x:Ext _,w'=x.w) [some false,some false,some false,some false,some false,some false,some false,some false,some false,some false,some false,some false,some false,some false,some false,some false,some false,some false,none] 0 (by kernel_rfl) (by kernel_rfl) ⟨⟨_,(Below.refl _ _).drew⟩,rfl⟩ ?_;simp only[earlyL,tailL]
         repeat (first | ((with_reducible refine wpMix_p ?_);go_big_quiet_step (fail);refine wpQuiet_nil ?_) | ((with_reducible refine wpMix_e ?_);go_big_quiet_step ((first | fail));refine wpQuiet_nil ?_))
         refine wpMix_nil ?_;clear hxc hxf;intro wx hwx;obtain⟨x,hx⟩:=hwx;have hb:=x.below;rw[←hx] at hb;clear hx x;have hox:=own_block hoj.out fun i hi=>hb.block i ((own_lt hoj.out i hi).2);obtain⟨x',e1',e2',ho1⟩:=hstep.out wx j (by omega) hox;have hbe:=(hb.cell (p:=⟨g,f.k+(a+j),none⟩) hgr).trans e1
         have hxx:x'=x:=by
          rw[hbe] at e1';unfold B8 at e1';simp only[Option.some.injEq,Value.int.injEq,true_and] at e1';exact UInt8.toNat_inj.1 (by omega)
         subst hxx
         have hkx:=(hkj.then_below hb).then_set (b:=g) (o:=f.k+(a+j)) (v:=B8 (x' ^^^ UInt8.ofNat (sm / 2 ^ (8*j)))) rfl
         rw[hxb.out];unfold B8 at ho1 hkx;replace ho1:=Lib.hid ho1;replace hox:=Lib.hid hox;replace hoj:=Lib.hid hoj;replace hkx:=Lib.hid hkx;clear e1 e2 hb hxb e1';refine wpTail_step ?_;intro Q1 hQ1
         go_wp2_with (fail)
         refine hQ1 _ _ rfl (fun h=>absurd h (by decide)) ?_;clear hQ1 Q1;refine wpTail_nil ?_;refine hQ0 _ _ ?_;clear hQ0 Q0;go_wp2_with fail
         go_roundw
         case rel=>exact⟨j+1,by omega,by rfl,ho1.out,hkx.out⟩
         case measure=>first | omega | (simp only[intOf];omega) | (trace_state;fail)
        ·obtain rfl:j=4:=by omega
         have hlt':¬((4:Nat):Int)<(4:Int):=by omega
         have hr0:=hy0.keptB hkj (fun e=>hgb e.symm);clear d0 d1;have d0:=hr0.cell 0;have d1:=hr0.cell 1;have hrl:=hr0.lt;replace hoj:=Lib.hid hoj;go_wp2_with fail
         have hxc:=@Ext.cell;have hxf:=@Ext.frozen;refine wp_hide (fun Q0 hQ0=>?_);refine wp_region_line (fun w'=>∃x:Ext _,w'=x.w) [some false,some false,some false,some false,some false,some false,some false,some false,some false,some false,some false,some false,some false,some false,none] 0 (by kernel_rfl) (by kernel_rfl) ⟨⟨_,(Below.refl _ _).drew⟩,rfl⟩ ?_;simp only[earlyL,tailL]
         repeat (first | ((with_reducible refine wpMix_p ?_);go_big_quiet_step (fail);refine wpQuiet_nil ?_) | ((with_reducible refine wpMix_e ?_);go_big_quiet_step ((first | fail));refine wpQuiet_nil ?_))
         refine wpMix_nil ?_;clear hxc hxf;intro wx hwx;obtain⟨x,hx⟩:=hwx;have hb:=x.below;rw[←hx] at hb;clear hx x;have hz0:=hr0.below hb hrl;have z0:=hz0.cell 0;have z1:=hz0.frozen 0
         have hfin:=hfin.out wx hz0 (own_block hoj.out fun i hi=>hb.block i ((own_lt hoj.out i hi).2)) ((hkv.out.trans hkj (fun _ _ e=>e)).then_below hb)
         replace hfin:=Lib.hid hfin;clear d0 d1;refine wpTail_step ?_;intro Q1 hQ1
         go_wp2_with (fail)
         refine hQ1 _ _ rfl (fun h=>absurd h (by decide)) ?_;clear hQ1 Q1;refine wpTail_nil ?_;refine hQ0 _ _ ?_;clear hQ0 Q0
         go_end0
         exact hfin.out
      ·have h4':(t:Int)-(a:Int)<4:=by omega
       have h4'':¬(4:Int)≤(t:Int)-(a:Int):=by omega
       have hm4:min 4 (t-a)=(t-a):=by omega
       rw[hm4] at hfin;obtain⟨wv,hwv⟩:∃wv,wv=wx:=⟨_,rfl⟩;subst hwv;have hkv:=Lib.hid ((KeptBut.of_below hBy.out (S:=fun z=>z=g)));go_wp2_with fail
       go_loopw [72] (fun i wr=>∃j:Nat,j≤(t-a)∧i=.int .i64 j∧OwnB wr 0 (.slice (some ⟨g,0,none⟩) f.d.length cap) (SPA f.d f.k t a sm j)∧KeptBut wv wr (fun z=>z=g)) (fun i _=>(t-a)-(intOf i).toNat)
       case atStart=>exact⟨0,Nat.zero_le _,rfl,hsp0.out,KeptBut.refl _ _⟩
       case round =>
        obtain⟨j,hj,rfl,hoj,hkj⟩:=hrel
        have hgr:g<wr.heap.size:=by have:=hBy.out.size;have:=hkj.size;omega
        by_cases hlt:j<(t-a)
        ·have hlt':(j:Int)<(t:Int)-(a:Int):=by omega
         obtain⟨x,e1,e2,_⟩:=hstep.out wr j (by omega) hoj;have cr2:=(hkj.cell ⟨w.heap.size,2,none⟩ lCy (by simp;omega)).trans cy2;have pr1:=(hkj.cell ⟨pb,po+k*2+1,none⟩ (by show pb<_;have:=hBy.out.size;omega) hpg).trans p1
         have hwr:w.heap.size<wr.heap.size:=by have:=hkj.size;omega
         have hpr:pb<wr.heap.size:=by have:=hBy.out.size;have:=hkj.size;omega
         unfold B8 at e1;replace hoj:=Lib.hid hoj;clear d0 d1 cy2 p0 p1
         have haj:(f.k:Int)+((a:Int)+(j:Int))<f.d.length:=by omega
         have haq':(a:Int)+(j:Int)<t:=by omega
         have hxb:=Lib.hid (xor_bits x sm j pm (by omega));go_wp2_with fail
         have hxc:=@Ext.cell;have hxf:=@Ext.frozen;refine wp_hide (fun Q0 hQ0=>?_);refine wp_region_line (fun w'=>∃x:Ext _,w'=x.w) [some false,some false,some false,some false,some false,some false,some false,some false,some false,some false,some false,some false,some false,some false,some false,some false,some false,some false,none] 0 (by kernel_rfl) (by kernel_rfl) ⟨⟨_,(Below.refl _ _).drew⟩,rfl⟩ ?_;simp only[earlyL,tailL]
         repeat (first | ((with_reducible refine wpMix_p ?_);go_big_quiet_step (fail);refine wpQuiet_nil ?_) | ((with_reducible refine wpMix_e ?_);go_big_quiet_step ((first | fail));refine wpQuiet_nil ?_))
         refine wpMix_nil ?_;clear hxc hxf;intro wx hwx;obtain⟨x,hx⟩:=hwx;have hb:=x.below;rw[←hx] at hb;clear hx x;have hox:=own_block hoj.out fun i hi=>hb.block i ((own_lt hoj.out i hi).2);obtain⟨x',e1',e2',ho1⟩:=hstep.out wx j (by omega) hox;have hbe:=(hb.cell (p:=⟨g,f.k+(a+j),none⟩) hgr).trans e1
         have hxx:x'=x:=by
          rw[hbe] at e1';unfold B8 at e1';simp only[Option.some.injEq,Value.int.injEq,true_and] at e1';exact UInt8.toNat_inj.1 (by omega)
         subst hxx
         have hkx:=(hkj.then_below hb).then_set (b:=g) (o:=f.k+(a+j)) (v:=B8 (x' ^^^ UInt8.ofNat (sm / 2 ^ (8*j)))) rfl
         rw[hxb.out];unfold B8 at ho1 hkx;replace ho1:=Lib.hid ho1;replace hox:=Lib.hid hox;replace hoj:=Lib.hid hoj;replace hkx:=Lib.hid hkx;clear e1 e2 hb hxb e1';refine wpTail_step ?_;intro Q1 hQ1
         go_wp2_with (fail)
         refine hQ1 _ _ rfl (fun h=>absurd h (by decide)) ?_;clear hQ1 Q1;refine wpTail_nil ?_;refine hQ0 _ _ ?_;clear hQ0 Q0;go_wp2_with fail
         go_roundw
         case rel=>exact⟨j+1,by omega,by rfl,ho1.out,hkx.out⟩
         case measure=>first | omega | (simp only[intOf];omega) | (trace_state;fail)
        ·obtain rfl:j=(t-a):=by omega
         have hlt':¬(((t-a):Nat):Int)<(t:Int)-(a:Int):=by omega
         have hr0:=hy0.keptB hkj (fun e=>hgb e.symm);clear d0 d1;have d0:=hr0.cell 0;have d1:=hr0.cell 1;have hrl:=hr0.lt;replace hoj:=Lib.hid hoj;go_wp2_with fail
         have hxc:=@Ext.cell;have hxf:=@Ext.frozen;refine wp_hide (fun Q0 hQ0=>?_);refine wp_region_line (fun w'=>∃x:Ext _,w'=x.w) [some false,some false,some false,some false,some false,some false,some false,some false,some false,some false,some false,some false,some false,some false,none] 0 (by kernel_rfl) (by kernel_rfl) ⟨⟨_,(Below.refl _ _).drew⟩,rfl⟩ ?_;simp only[earlyL,tailL]
         repeat (first | ((with_reducible refine wpMix_p ?_);go_big_quiet_step (fail);refine wpQuiet_nil ?_) | ((with_reducible refine wpMix_e ?_);go_big_quiet_step ((first | fail));refine wpQuiet_nil ?_))
         refine wpMix_nil ?_;clear hxc hxf;intro wx hwx;obtain⟨x,hx⟩:=hwx;have hb:=x.below;rw[←hx] at hb;clear hx x;have hz0:=hr0.below hb hrl;have z0:=hz0.cell 0;have z1:=hz0.frozen 0
         have hfin:=hfin.out wx hz0 (own_block hoj.out fun i hi=>hb.block i ((own_lt hoj.out i hi).2)) ((hkv.out.trans hkj (fun _ _ e=>e)).then_below hb)
         replace hfin:=Lib.hid hfin;clear d0 d1;refine wpTail_step ?_;intro Q1 hQ1
         go_wp2_with (fail)
         refine hQ1 _ _ rfl (fun h=>absurd h (by decide)) ?_;clear hQ1 Q1;refine wpTail_nil ?_;refine hQ0 _ _ ?_;clear hQ0 Q0
         go_end0
         exact hfin.out
     ·have htl:tailC c k (f.d.drop f.k)=(f.d.drop f.k).take t:=by
       unfold tailC;simp only[];rw[List.length_drop,hq.out,List.getElem?_eq_none (by omega)]
       split<;>rfl
      replace htl:=Lib.hid htl
      have hsp':¬(k:Int)<(c.spoil.length:Int):=by omega
      replace hq0:=Lib.hid hq0;obtain⟨wz,hwz⟩:∃wz,wz=wx:=⟨_,rfl⟩;subst hwz;go_wp2_with fail
      have hxc:=@Ext.cell;have hxf:=@Ext.frozen;refine wp_hide (fun Q0 hQ0=>?_);refine wp_region_line (fun w'=>∃x:Ext _,w'=x.w) [some false,some false,some false,some false,some false,some false,some false,some false,some false,some false,some false,some false,some false,some false,none] 0 (by kernel_rfl) (by kernel_rfl) ⟨⟨_,(Below.refl _ _).drew⟩,rfl⟩ ?_;simp only[earlyL,tailL]
      repeat (first | ((with_reducible refine wpMix_p ?_);go_big_quiet_step (fail);refine wpQuiet_nil ?_) | ((with_reducible refine wpMix_e ?_);go_big_quiet_step ((first | fail));refine wpQuiet_nil ?_))
      refine wpMix_nil ?_;clear hxc hxf;intro wx hwx;obtain⟨x,hx⟩:=hwx;have hb:=x.below;rw[←hx] at hb;clear hx x;have hz0:=hy0.below hb hyl;have z0:=hz0.cell 0;have z1:=hz0.frozen 0;have hBz:Below w.heap.size w wx:=hBy.out.trans (hb.mono hBy.out.size);have hfin:=FCr.plain_ hz0 (own_block ho fun j hj=>hBz.block j ((own_lt ho j hj).2)) hq.out htl.out hBz (by omega);replace hfin:=Lib.hid hfin;clear d0 d1;refine wpTail_step ?_;intro Q1 hQ1
      go_wp2_with (fail)
      refine hQ1 _ _ rfl (fun h=>absurd h (by decide)) ?_;clear hQ1 Q1;refine wpTail_nil ?_;refine hQ0 _ _ ?_;clear hQ0 Q0
      go_end0
      exact hfin.out
 ·have h1':¬(k:Int)<(c.keep.length:Int):=by omega
  have hq:keepN c k (f.d.length-f.k)=0:=by unfold keepN;rw[List.getElem?_eq_none (by omega)]
  replace hq:=Lib.hid hq
  go_enter Tryz.func62,Tryz.ntmps62
  go_wp2_with fail
  have hxc:=@Ext.cell;have hxf:=@Ext.frozen;refine wp_hide (fun Q0 hQ0=>?_);refine wp_region_line (fun w'=>∃x:Ext _,w'=x.w) [some false,some false,some false,some false,some false,some false,some false,some false,some false,some false,some false,some false,some false,some false,some false,some false] 0 (by kernel_rfl) (by kernel_rfl) ⟨⟨_,(Below.refl _ _).drew⟩,rfl⟩ ?_;simp only[earlyL,tailL]
  repeat (first | ((with_reducible refine wpMix_p ?_);go_big_quiet_step (fail);refine wpQuiet_nil ?_) | ((with_reducible refine wpMix_e ?_);go_big_quiet_step ((first | fail));refine wpQuiet_nil ?_))
  refine wpMix_nil ?_;clear hxc hxf;intro wx hwx;obtain⟨x,hx⟩:=hwx;have hb:=x.below;rw[←hx] at hb;clear hx x;refine wpTail_nil ?_;refine hQ0 _ _ ?_;clear hQ0 Q0;have hb1:=hb0.below ((Below.refl w.heap.size w).alloc (Nat.le_refl _) (.cells #[.int .i64 c.names,.slice KA c.keep.length kc,.slice PA c.spoil.length pc] 58)) hbl;have hx0:=hb1.below hb (by simp;omega);have d0:=hx0.cell 0;have d1:=hx0.cell 1;have e0:=hx0.frozen 0;have hxl:=hx0.lt;have hBx:Below w.heap.size w wx:=((Below.refl w.heap.size w).alloc (Nat.le_refl _) _).trans (hb.mono (by simp));replace hBx:=Lib.hid hBx;clear b0 b1 g0 hb;go_wp2_with fail
  obtain⟨wy,hwy⟩:∃wy,wy=wx:=⟨_,rfl⟩;subst hwy;have hxc:=@Ext.cell;have hxf:=@Ext.frozen;refine wp_hide (fun Q0 hQ0=>?_);refine wp_region_line (fun w'=>∃x:Ext _,w'=x.w) [some false,some false,some false,some false,some false,some false,some false,some false,some false,some false,some false,some false,some false,some false,none] 0 (by kernel_rfl) (by kernel_rfl) ⟨⟨_,(Below.refl _ _).drew⟩,rfl⟩ ?_;simp only[earlyL,tailL]
  repeat (first | ((with_reducible refine wpMix_p ?_);go_big_quiet_step (fail);refine wpQuiet_nil ?_) | ((with_reducible refine wpMix_e ?_);go_big_quiet_step ((first | fail));refine wpQuiet_nil ?_))
  refine wpMix_nil ?_;clear hxc hxf;intro wx hwx;obtain⟨x,hx⟩:=hwx;have hb:=x.below;rw[←hx] at hb;clear hx x;have hy0:=hx0.below hb hxl;have y0:=hy0.cell 0;have z0:=hy0.frozen 0;have hfin:=FCr.none_ hy0 (own_block (own_block ho fun j hj=>hBx.out.block j ((own_lt ho j hj).2)) fun j hj=>hb.block j (by have:=(own_lt ho j hj).2;have:=hBx.out.size;omega)) hk hq.out (hBx.out.trans (hb.mono hBx.out.size));replace hfin:=Lib.hid hfin;clear d0 d1 e0;refine wpTail_step ?_;intro Q1 hQ1
  go_wp2_with (fail)
  refine hQ1 _ _ rfl (fun h=>absurd h (by decide)) ?_;clear hQ1 Q1;refine wpTail_nil ?_;refine hQ0 _ _ ?_;clear hQ0 Q0
  go_end0
  exact hfin.out
end Go.Proofs.YtlpojfgeocpkeaaGreatDoor
