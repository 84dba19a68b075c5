/- block: Open. block: Len, At. block: Seek. table.Table in memory; May. -/
import Derived.Test.YtlpojfgeocpkeaaGreatDoorX18
import Derived.Test.YtlpojfgeocpkeaaGreatDoorTCrcJ
import Derived.Laws.EntriesVeiled
import Derived.Test.YtlpojfgeocpkeaaGreatDoorX23
namespace Go.Proofs.YtlpojfgeocpkeaaGreatDoor
open Go.RowKit
set_option linter.unusedVariables false
set_option linter.unusedSimpArgs false
theorem int_info:(Tryz.prog.info? 3).map (fun i=>(i.zero,i.size,i.bytes))=some (some (.int .i64 0),1,8):=by kernel_rfl
def OwnI (w:World)(B:Nat)(v:Value)(l:List Nat):Prop:=w.ownsRow B 3 1 v l.length (l.map fun n=>Value.int .i64 (n:Nat))
theorem OwnI.form {w:World}{B:Nat}{v:Value}{l:List Nat}(h:OwnI w B v l):∃A cap,v=.slice A l.length cap:=by
 rcases h.2 with⟨rfl,e⟩ | ⟨g,cap,cur,rfl,_⟩
 ·exact⟨none,0,by rw[e]⟩
 ·exact⟨_,cap,rfl⟩
theorem OwnI.of_law {w:World}{B n:Nat}{v:Value}{l:List Nat}{m:Nat}(h:w.ownsRow B 3 1 v n ((l.map fun n=>Value.int .i64 (n:Nat))++[.int .i64 (m:Nat)])):OwnI w B v (l++[m]):=by
 have hl:n=(l++[m]).length:=by have:=h.1;simp at this;simp;omega
 subst hl;unfold OwnI;rw[List.map_append];exact h
theorem new_int (w:World)(X:Int)(t:TypeId):Reads (w.alloc (.cells #[.int .i64 X] t)) (w.heap.size+1) 1 (some ⟨w.heap.size,0,none⟩) 1 [.int .i64 X]:=by
 refine⟨rfl,fun _=>⟨_,rfl,by simp,fun j u hu=>?_⟩⟩
 cases j with
 | zero =>
  simp at hu;subst hu;simp only[Addr.add,if_true];rw[World.cell?_alloc_new];rfl
 | succ j=>simp at hu
def BkAt (w:World)(gx:Nat)(es:List (L × L)):Prop:=∃A cap,Blk w gx 181 #[.string (bs (foldB es).b),.slice A (foldB es).starts.length cap,.int .i64 es.length]∧Reads w w.heap.size 1 A (foldB es).starts.length ((foldB es).starts.map fun n=>Value.int .i64 (n:Nat))∧ValidB es∧es.length≤1048576∧(foldB es).b.length≤1048576
theorem BkAt.below {w w':World}{gx:Nat}{es:List (L × L)}(h:BkAt w gx es)(hb:Below w.heap.size w w'):BkAt w' gx es:=by
 obtain⟨A,cap,h1,h2,h3⟩:=h;exact⟨A,cap,h1.below hb h1.lt,(h2.below hb).more hb.size,h3⟩
theorem BkAt.lt {w:World}{gx:Nat}{es:List (L × L)}(h:BkAt w gx es):gx<w.heap.size:=by
 obtain⟨A,cap,h1,h2,h3⟩:=h;exact h1.lt
def BkF (F:Nat→Prop)(w:World)(gx:Nat)(es:List (L × L)):Prop:=∃A cap,Blk w gx 181 #[.string (bs (foldB es).b),.slice A (foldB es).starts.length cap,.int .i64 es.length]∧Reads w w.heap.size 1 A (foldB es).starts.length ((foldB es).starts.map fun n=>Value.int .i64 (n:Nat))∧(ValidB es∧es.length≤1048576∧(foldB es).b.length≤1048576)∧F gx∧∀ad,A=some ad→0<(foldB es).starts.length→F ad.block
theorem BkF.at_ {F:Nat→Prop}{w:World}{gx:Nat}{es:List (L × L)}(h:BkF F w gx es):BkAt w gx es:=by
 obtain⟨A,cap,h1,h2,h3,h4,h5⟩:=h;exact⟨A,cap,h1,h2,h3⟩
theorem reads_kept {w w':World}{S:Nat→Prop}(hk:KeptBut w w' S){m n:Nat}{A:Option Addr}{xs:List Value}(hr:Reads w w.heap.size m A n xs)(hs:∀ad,A=some ad→0<n→¬S ad.block):Reads w' w'.heap.size m A n xs:=by
 rcases Nat.eq_zero_or_pos n with h0 | h0
 ·exact⟨hr.1,fun h=>absurd h (by omega)⟩
 ·exact hk.reads hr (fun ad e=>hs ad e h0)
theorem BkF.kept {F S:Nat→Prop}{w w':World}{gx:Nat}{es:List (L × L)}(h:BkF F w gx es)(hk:KeptBut w w' S)(hd:∀k,F k→¬S k):BkF F w' gx es:=by
 obtain⟨A,cap,h1,h2,h3,h4,h5⟩:=h;exact⟨A,cap,h1.keptB hk (hd _ h4),reads_kept hk h2 (fun ad e hn=>hd _ (h5 ad e hn)),h3,h4,h5⟩
theorem BkF.mono {F F':Nat→Prop}{w:World}{gx:Nat}{es:List (L × L)}(h:BkF F w gx es)(hF:∀k,k<w.heap.size→F k→F' k):BkF F' w gx es:=by
 obtain⟨A,cap,h1,h2,h3,h4,h5⟩:=h
 exact⟨A,cap,h1,h2,h3,hF _ h1.lt h4,fun ad e hn=>by
  obtain⟨ad',e',hb,_⟩:=h2.2 hn;rw[e] at e';injection e' with e';subst e'
  exact hF _ hb (h5 ad e hn)⟩
def OpenIs (w:World)(o:Option (List (L × L)))(e:Ending)(w':World):Prop:=match o with
 | none=>e=.returned (.tuple #[.pointer none,.int .i64 8])
 | some es=>∃gx,e=.returned (.tuple #[.pointer (some ⟨gx,0,none⟩),.int .i64 0])∧w.heap.size≤gx∧BkF (fun k=>w.heap.size≤k) w' gx es
theorem OpenIs.none_ {w:World}{o:Option (List (L × L))}{w':World}(h:o=none):OpenIs w o (.returned (.tuple #[.pointer none,.int .i64 8])) w':=by subst h;rfl
theorem OpenIs.some_ {w:World}{o:Option (List (L × L))}{w':World}{es:List (L × L)}{gx:Nat}(h:o=some es)(hg:w.heap.size≤gx)(hk:BkF (fun k=>w.heap.size≤k) w' gx es):OpenIs w o (.returned (.tuple #[.pointer (some ⟨gx,0,none⟩),.int .i64 0])) w':=by subst h;exact⟨gx,rfl,hg,hk⟩
theorem readBig4_lt {l:L}{c:Nat}(h:readBig l 4=some c):c<4294967296:=by
 unfold readBig at h
 split at h
 ·cases h
 ·rename_i hk
  injection h with h;subst h;have h1:=beV_lt (l.take (4:Int).toNat)
  have h2:(l.take (4:Int).toNat).length≤4:=by rw[List.length_take];exact Nat.min_le_left _ _
  have h3:256 ^ (l.take (4:Int).toNat).length≤256 ^ 4:=Nat.pow_le_pow_right (by omega) h2;omega
def OInv (w:World)(S:L)(c gx ga:Nat)(kv av iv:Value)(wr:World):Prop:=∃i key p bb es vx vb vs cs,i≤c∧iv=.int .i64 (i:Nat)∧av=.int .i64 (p:Nat)∧rdB S i=some (key,p,bb,es)∧RdB wr kv key∧Blk wr gx 181 #[.string (bs S),vx,.int .i64 (c:Nat)]∧OwnI wr w.heap.size vx (stR S i)∧BBAt wr w.heap.size ga 157 0 cs bb vb vs∧(∀k,kv.ownBlock=some k→vb.ownBlock≠some k∧k≠ga∧vs.ownBlock≠some k∧k≠gx∧vx.ownBlock≠some k)∧Below w.heap.size w wr
theorem app_facts {wr w2:World}{B gx n l cx:Nat}{Ax:Option Addr}{x0 x2:Value}{xs:List Value}{o:Obj}(hX:Blk wr gx 181 #[x0,.slice Ax n cx,x2])(hI:wr.ownsRow B 3 1 (.slice Ax n cx) l xs)(hg:(wr.alloc o).grownBy w2 (Value.slice Ax n cx).ownBlock) :
  KeptBut wr w2 (fun k=>(Value.slice Ax n cx).ownBlock=some k)∧Blk w2 gx 181 #[x0,.slice Ax n cx,x2]∧w2.cell? ⟨gx,0,none⟩=some x0∧w2.cell? ⟨gx,1,none⟩=some (.slice Ax n cx)∧w2.frozen? ⟨gx,1,none⟩=false∧gx<w2.heap.size:=by
 have hk2:KeptBut wr w2 (fun k=>(Value.slice Ax n cx).ownBlock=some k):=(KeptBut.of_below ((Below.refl _ _).alloc (Nat.le_refl _) _)).then_grown hg (fun k e=>e)
 have hXw:=hX.keptB hk2 (own_blk_ne hI hX (by decide));exact⟨hk2,hXw,hXw.cell 0,hXw.cell 1,hXw.frozen 1,hXw.lt⟩
set_option maxRecDepth 100000 in
set_option maxHeartbeats 4000000 in
theorem Open_any (s:ByteArray)(w:World)(hs:s.size≤1048576) :
  Calls Tryz.prog 121 #[.string s] w fun e w'=>OpenIs w (openB s.data.toList) e w'∧Below w.heap.size w w':=by
 obtain⟨i0,hi0,hz0,hz1,hz2⟩:=info_parts int_info;have hl:=dlen s
 by_cases h4:s.size<4
 ·have hR:openB s.data.toList=none:=by
   unfold openB;rw[show readBig (s.data.toList.drop (s.data.toList.length-4)) 4=none from by unfold readBig;rw[if_pos (.inr (.inr (by simp;omega)))]]
  have hx:=ReadBig_none s 4 w (by unfold maxLen;omega) (by omega) (by omega) (by unfold readBig;rw[if_pos (.inr (.inr (by rw[dlen];omega)))])
  have h4':((s.size:Nat):Int)-4≤0:=by omega
  have hmx:max (((s.size:Nat):Int)-4) 0=0:=by omega
  replace hR:=Lib.hid hR;replace hx:=Lib.hid hx;clear hl
  go_enter Tryz.func121,Tryz.ntmps121
  go_wp2_with fail
  refine hx.out.mono ?_;rintro e w1 ⟨rfl,hb1⟩;go_wp2_with fail
  go_ret2
  exact⟨OpenIs.none_ hR.out,hb1⟩
 ·obtain⟨m,hm⟩:∃m,s.size=m+4:=⟨s.size-4,by omega⟩
  have hm0:(0:Int)≤(m:Int):=by omega
  have hsm:((s.size:Nat):Int)-4=(m:Nat):=by omega
  have hmx:max ((m:Nat):Int) 0=(m:Nat):=by omega
  obtain⟨c,hc⟩:∃c,readBig (s.data.toList.drop m) 4=some c:=by
   unfold readBig;rw[if_neg (by simp;omega)];exact⟨_,rfl⟩
  have hc4:=readBig4_lt hc
  have hdm:s.data.toList.length-4=m:=by omega
  have hO:openB s.data.toList=if s.data.toList.length / 4-1<(c+3) / 4 then none else match rdB (s.data.toList.take (s.data.toList.length-4*((c+3) / 4+1))) c with
   | none=>none
   | some (_,_,bb,es)=>if bb.out=s.data.toList then some es else none:=by
   unfold openB;rw[hdm,hc];rfl
  rw[dlen] at hO;have hx:=ReadBig_some (s.extract m s.size) 4 c w (by unfold maxLen;simp;omega) (by omega) (by omega) (by rw[drop_data];exact hc);replace hx:=Lib.hid hx;replace hc:=Lib.hid hc
  have hw1:IntKind.u64.wrap ((c:Int)+4)=(c:Int)+4:=by rw[IntKind.wrap_u64];omega
  have hw2:IntKind.u64.wrap ((c:Int)+4-1)=(c:Int)+3:=by rw[IntKind.wrap_u64];omega
  have hw3:((c:Int)+3) / 4=(((c+3) / 4:Nat):Int):=by omega
  have hw5:((s.size:Nat):Int) / 4=((s.size / 4:Nat):Int):=by omega
  have hsq1:1≤s.size / 4∧4*(s.size / 4)≤s.size:=by omega
  have hw4:IntKind.u64.wrap (((s.size / 4:Nat):Int)-1)=((s.size / 4:Nat):Int)-1:=by rw[IntKind.wrap_u64];omega
  clear hl
  have hml:((m:Nat):Int)≤s.size:=by omega
  have hst4:4*((c+3) / 4)≤c+3∧c≤4*((c+3) / 4):=by omega
  generalize (c+3) / 4=st at *
  generalize s.size / 4=sq at *
  have hms:=Lib.hid hm;clear hm hdm
  by_cases hbig:sq-1<st
  ·rw[if_pos hbig] at hO
   have hbig':((sq:Nat):Int)-1<(st:Int):=by omega
   replace hO:=Lib.hid hO
   go_enter Tryz.func121,Tryz.ntmps121
   go_wp2_with fail
   refine hx.out.mono ?_;rintro e w1 ⟨rfl,hb1⟩;go_wp2_with fail
   go_ret2
   exact⟨OpenIs.none_ hO.out,hb1⟩
  ·rw[if_neg hbig] at hO
   have hbig':¬((sq:Nat):Int)-1<(st:Int):=by omega
   have hst5:st≤sq-1:=by omega
   obtain⟨ev,hev⟩:∃ev,s.size=ev+4*(st+1):=⟨s.size-4*(st+1),by have:=hms.out;omega⟩
   have hev1:s.size-4*(st+1)=ev:=by omega
   have hev2:((s.size:Nat):Int)-4*((st:Int)+1)=(ev:Nat):=by omega
   have hev3:((ev:Nat):Int)≤s.size:=by omega
   have hcs:c≤1048576:=by omega
   have hevb:ev≤1048576:=by omega
   have hw6:IntKind.u64.wrap ((st:Int)+1)=((st:Int)+1):=by rw[IntKind.wrap_u64];omega
   rw[hev1] at hO
   have hSd:(s.extract 0 ev)=bs (s.data.toList.take ev):=by rw[ext_bs];simp
   have hSl:(s.data.toList.take ev).length=ev:=by rw[List.length_take,dlen];omega
   obtain⟨S,hSt⟩:∃S,s.data.toList.take ev=S:=⟨_,rfl⟩;rw[hSt] at hO hSd hSl;replace hSt:=Lib.hid hSt;replace hO:=Lib.hid hO;replace hev:=Lib.hid hev;clear hev1
   go_enter Tryz.func121,Tryz.ntmps121
   go_wp2_with fail
   refine hx.out.mono ?_;rintro e w1 ⟨rfl,hb1⟩;go_wp2_with fail
   replace hst4:=Lib.hid hst4;replace hsq1:=Lib.hid hsq1;clear hw1 hw2 hw3 hw4 hw5 hw6 hsm hmx hev2 hm0 hml hev3 hbig' hbig hst5
   go_loopw [10,12,59] (fun kv av iv wr=>OInv w S c w1.heap.size (w1.heap.size+1) kv av iv wr) (fun _ _ iv _=>c-(intOf iv).toNat)
   case atStart =>
    have hz1:=hb1.size
    have hBA:BBAt ((w1.alloc (.cells #[.string (bs S),.slice none 0 0,.int .i64 (c:Nat)] 181)).alloc (.cells #[.slice none 0 0,.slice none 0 0,.int .i64 0,.string ⟨#[]⟩] 157)) w.heap.size (w1.heap.size+1) 157 0 #[.slice none 0 0,.slice none 0 0,.int .i64 0,.string ⟨#[]⟩] BB.new (.slice none 0 0) (.slice none 0 0):=by
     refine⟨by omega,?_,rfl,rfl,rfl,rfl,OwnB.nil _ _,World.ownsRow_nil _ _ _ 1,by decide,by decide⟩;have:=Blk.new (w1.alloc (.cells #[.string (bs S),.slice none 0 0,.int .i64 (c:Nat)] 181)) 157 #[.slice none 0 0,.slice none 0 0,.int .i64 0,.string ⟨#[]⟩]
     rwa [World.size_alloc] at this
    refine⟨0,[],0,BB.new,[],.slice none 0 0,.slice none 0 0,.slice none 0 0,_,Nat.zero_le _,rfl,rfl,rfl,RdB.nil _,(Blk.new w1 _ _).alloc _,World.ownsRow_nil _ _ _ 1,hBA,(fun k hk=>by cases hk),?_⟩;exact (hb1.alloc (by omega) _).alloc (by rw[World.size_alloc];omega) _
   case round =>
    obtain⟨i,key,p,bb,es,vx,vb,vs,cs,hi,rfl,rfl,hrd,hkv,hX,hI,hA,hsep,hbr⟩:=hrel;obtain⟨l1,l2,l3,l4,l5,l6⟩:=rdB_le _ _ _ _ _ _ hrd;obtain⟨m1,m2,m3⟩:=rdB_spec _ _ _ _ _ _ hrd
    have hcnt:bb.count=i:=by rw[m1,foldB_count,m3]
    have hsl:=stR_len S i;have hBs:=hbr.size;obtain⟨Ak,ck,rfl,_,_⟩:=hkv.form
    by_cases hlt:i<c
    ·have hlt':(i:Int)<c:=by omega
     replace hrd:=Lib.hid hrd;replace hsep:=Lib.hid hsep
     by_cases hm4:i % 4=0
     ·have hm4':(i:Int) % 4=0:=by omega
      have hst2:stR S (i+1)=stR S i++[p]:=by
       rw[show stR S (i+1)=stR S i++[atR S i] from if_pos hm4];unfold atR;rw[hrd.out];rfl
      obtain⟨Ax,cx,rfl⟩:=hI.form;have x1:wr.cell? ⟨w1.heap.size,1,none⟩=some (.slice Ax (stR S i).length cx):=hX.cell 1;have hownx:=World.ownsRow.alloc hI (.cells #[.int .i64 (p:Nat)] 3);have hrd2:=new_int wr (p:Nat) 3
      have hone:∀u∈[Value.int .i64 (p:Nat)],u.oneCell'=true:=by
       intro u hu;simp at hu;subst hu;rfl
      have hBx:w.heap.size≤(wr.alloc (.cells #[.int .i64 (p:Nat)] 3)).heap.size:=by rw[World.size_alloc];omega
      have hxl:=hX.lt;replace hone:=Lib.hid hone;replace hst2:=Lib.hid hst2
      go_wp2_with (at_builtin;refine wpList_append_any _ rfl (.tmp 69) (.tmp 71) 55 rfl w.heap.size 3 i0 (.int .i64 0) 1 8 Tryz.underlying55 hi0 hz0 hz1 hz2 rfl (by omega) (.slice Ax (stR S i).length cx) (stR S i).length ((stR S i).map fun n=>Value.int .i64 (n:Nat)) rfl hownx (wr.heap.size+1) (some ⟨wr.heap.size,0,none⟩) 1 1 [.int .i64 (p:Nat)] rfl hrd2 hone.out (by unfold maxLen;omega) (by omega) hBx ?_;intro v2 w2 hown2 hgr2 hat2;have ho2:=OwnI.of_law hown2;obtain⟨A2,c2,e2⟩:=ho2.form;rw[List.length_append,List.length_singleton] at e2;subst e2;obtain⟨hk2,hXw,y0,y1,y2,yl⟩:=app_facts hX hI hgr2)
      have hz2':=hk2.size
      have hk3:KeptBut wr (w2.setCell ⟨w1.heap.size,1,none⟩ (.slice A2 ((stR S i).length+1) c2)) (fun k=>k=w1.heap.size∨(Value.slice Ax (stR S i).length cx).ownBlock=some k):=(hk2.mono (fun k _ e=>.inr e)).then_set (.inl rfl)
      have hI2:OwnI (w2.setCell ⟨w1.heap.size,1,none⟩ (.slice A2 ((stR S i).length+1) c2)) w.heap.size (.slice A2 ((stR S i).length+1) c2) (stR S (i+1)):=by
       rw[hst2.out];exact own_set ho2 hXw (by decide)
      have hX2:Blk (w2.setCell ⟨w1.heap.size,1,none⟩ (.slice A2 ((stR S i).length+1) c2)) w1.heap.size 181 #[.string (bs S),.slice A2 ((stR S i).length+1) c2,.int .i64 (c:Nat)]:=hXw.set_ 1 _
      have hA2:=hA.kept hk3 (fun e=>by
       rcases e with e | e
       ·exact Blk.ne_ hA.blk hX (by decide) e
       ·exact own_blk_ne hI hA.blk (by decide) e) (fun k hk e=>by
       rcases e with e | e
       ·exact own_blk_ne hA.ob hX (by decide) (by rw[hk,e])
       ·exact own_types hA.ob hI (by decide) k hk e) (fun k hk e=>by
       rcases e with e | e
       ·exact own_blk_ne hA.os hX (by decide) (by rw[hk,e])
       ·exact own_types hA.os hI (by decide) k hk e)
      have hkv2:=hkv.kept hk3 (fun k hk e=>e.elim (hsep.out k hk).2.2.2.1 (hsep.out k hk).2.2.2.2)
      have hbr2:=hk3.below_of hbr (fun k e=>by
       rcases e with e | e
       ·have:=hb1.size;omega
       ·exact (own_lt hI k e).1)
      have hsep2:∀k,(Value.slice Ak key.length ck).ownBlock=some k→vb.ownBlock≠some k∧k≠w1.heap.size+1∧vs.ownBlock≠some k∧k≠w1.heap.size∧(Value.slice A2 ((stR S i).length+1) c2).ownBlock≠some k:=by
       intro k hk;obtain⟨a1,a2,a3,a4,a5⟩:=hsep.out k hk;refine⟨a1,a2,a3,a4,fun e=>?_⟩;rcases hat2 with e2 | e2
       ·exact a5 (by rw[←e2];exact e)
       ·have e3:=Option.some.inj (e.symm.trans e2);have e4:=hkv.own k hk;have e5:(wr.alloc (Obj.cells #[Value.int .i64 (p:Nat)] 3)).heap.size=wr.heap.size+1:=World.size_alloc _ _;rw[e5] at e3;omega
      clear hsep;have hsep:=Lib.hid hsep2;clear hsep2;replace hI2:=Lib.hid hI2;replace hA2:=Lib.hid hA2;replace hkv2:=Lib.hid hkv2;replace hbr2:=Lib.hid hbr2;clear hkv hI hA hX hbr hownx hrd2 hown2 hgr2 hat2 ho2 hXw hk2 hk3
      generalize w2.setCell ⟨w1.heap.size,1,none⟩ (.slice A2 ((stR S i).length+1) c2)=W2 at *
      obtain⟨vx2,hvx2⟩:∃x,x=Value.slice A2 ((stR S i).length+1) c2:=⟨_,rfl⟩;rw[←hvx2] at hI2 hX2 hsep;replace hvx2:=Lib.hid hvx2;clear y0 y1 y2 yl x1;have hnx:=Lib.hid (next_any (bs S) p (.slice Ak key.length ck) key W2 hkv2.out (by rw[bs_size];omega) (by rw[bs_size];omega) (by omega));have z0:W2.cell? ⟨w1.heap.size,0,none⟩=some (.string (bs S)):=hX2.cell 0;have zl:=hX2.lt
      try go_wp2_with fail
      refine hnx.out.mono ?_;rintro e w3 ⟨hnr,hb3⟩;rw[bs_data] at hnr
      cases hnp:nextP S p key with
      | none =>
       rw[hnp] at hnr;obtain rfl:=hnr;go_wp2_with fail
       go_ret2
       refine⟨OpenIs.none_ ?_,hbr2.out.trans (hb3.mono hbr2.out.size)⟩;rw[hO.out,rdB_stop S c (i+1) (by omega) (by rw[rdB_succ hrd.out,hnp])]
      | some r =>
       obtain⟨k1,v1,q⟩:=r;rw[hnp] at hnr;obtain⟨kv1,rfl,hr1,hm1⟩:=hnr
       have hk1l:k1.length≤1099511627776:=by
        have:=nextP_len hnp;omega
       have hA3:=hA2.out.below hb3;have hz3:=hb3.size;have htx:=hr1.text;obtain⟨A1,c1,rfl,_,_⟩:=hr1.form;replace hr1:=Lib.hid hr1;replace hm1:=Lib.hid hm1;replace hnp:=Lib.hid hnp
       have hq0:¬((q:Nat):Int)<0:=by omega
       by_cases her:bb.err k1 v1=0
       ·have hadd:=BAdd_ok hA3 (bs k1) (bs v1) (by rw[bs_data,bs_data];exact her) (by have:=hbr2.out.size;omega) (by omega) (by omega) (by omega) (by omega);rw[bs_data,bs_data] at hadd;replace hadd:=Lib.hid hadd;replace hA3:=Lib.hid hA3;replace her:=Lib.hid her;go_wp2_with fail
        refine hadd.out.mono ?_;rintro e w4 ⟨rfl,vb4,vs4,hA4,hk4,hmb4,hms4⟩;go_wp2_with fail
        have hz4:=hk4.size
        have hX4:Blk w4 (w1.heap.size) 181 _:=(hX2.below hb3 hX2.lt).keptB hk4 (fun e=>by
         rcases e with e | e | e
         ·omega
         ·exact own_blk_ne hA2.out.ob hX2 (by decide) e
         ·exact own_blk_ne hA2.out.os hX2 (by decide) e)
        have hr4:RdB w4 (.slice A1 k1.length c1) k1:=hr1.out.kept hk4 (fun k hk e=>by
         have hnew:=hm1.out;rcases e with e | e | e
         ·rcases hnew with e1 | ⟨x,e1,hx⟩
          ·exact (hsep.out k (by rw[←e1];exact hk)).2.1 e
          ·rw[hk] at e1;injection e1 with e1;have:=hA2.out.blk.lt;omega
         ·rcases hnew with e1 | ⟨x,e1,hx⟩
          ·exact (hsep.out k (by rw[←e1];exact hk)).1 e
          ·rw[hk] at e1;injection e1 with e1;have:=(own_lt hA2.out.ob k e).2;omega
         ·rcases hnew with e1 | ⟨x,e1,hx⟩
          ·exact (hsep.out k (by rw[←e1];exact hk)).2.2.1 e
          ·rw[hk] at e1;injection e1 with e1;have:=(own_lt hA2.out.os k e).2
           omega)
        have hI4:=own_kept (own_block hI2.out (fun k hk=>hb3.block k (own_lt hI2.out k hk).2)) hk4 (fun k hk e=>by
         rcases e with e | e | e
         ·exact own_blk_ne hI2.out hA2.out.blk (by decide) (by rw[hk,e])
         ·exact own_types hI2.out hA2.out.ob (by decide) k hk e
         ·exact own_types hI2.out hA2.out.os (by decide) k hk e)
        refine⟨⟨i+1,k1,q,bb.put k1 v1,es++[(k1,v1)],vx2,vb4,vs4,_,by omega,by go_num,rfl,by rw[rdB_succ hrd.out,hnp.out];simp only[];rw[if_pos her.out],hr4,hX4,hI4,hA4,fun k hk=>?_,?_⟩,by first | omega | (simp only[intOf];omega)⟩
        ·have hk3:k<w3.heap.size:=hr1.out.own k hk
         have hne:∀v v':Value,Moved w3 v v'→v.ownBlock≠some k→v'.ownBlock≠some k:=by
          intro v v' hm hn e;rcases hm with e1 | ⟨x,e1,hx⟩
          ·exact hn (by rw[←e1];exact e)
          ·rw[e] at e1;injection e1 with e1;omega
         have hnew:=hm1.out;refine⟨hne _ _ hmb4 ?_,?_,hne _ _ hms4 ?_,?_,?_⟩
         ·intro e;rcases hnew with e1 | ⟨x,e1,hx⟩
          ·exact (hsep.out k (by rw[←e1];exact hk)).1 e
          ·rw[hk] at e1;injection e1 with e1;have:=(own_lt hA2.out.ob k e).2;omega
         ·intro e;rcases hnew with e1 | ⟨x,e1,hx⟩
          ·exact (hsep.out k (by rw[←e1];exact hk)).2.1 e
          ·rw[hk] at e1;injection e1 with e1;have:=hA2.out.blk.lt;omega
         ·intro e;rcases hnew with e1 | ⟨x,e1,hx⟩
          ·exact (hsep.out k (by rw[←e1];exact hk)).2.2.1 e
          ·rw[hk] at e1;injection e1 with e1;have:=(own_lt hA2.out.os k e).2;omega
         ·intro e;rcases hnew with e1 | ⟨x,e1,hx⟩
          ·exact (hsep.out k (by rw[←e1];exact hk)).2.2.2.1 e
          ·rw[hk] at e1;injection e1 with e1;omega
         ·intro e;rcases hnew with e1 | ⟨x,e1,hx⟩
          ·exact (hsep.out k (by rw[←e1];exact hk)).2.2.2.2 e
          ·rw[hk] at e1;injection e1 with e1;have:=(own_lt hI2.out k e).2;omega
        ·refine hk4.below_of (hbr2.out.trans (hb3.mono hbr2.out.size)) (fun k e=>?_);rcases e with e | e | e
         ·have:=hA2.out.hB;omega
         ·exact (own_lt hA2.out.ob k e).1
         ·exact (own_lt hA2.out.os k e).1
       ·have hadd:=BAdd_err hA3 (bs k1) (bs v1) (by rw[bs_data,bs_data];exact her);rw[bs_data,bs_data] at hadd;obtain⟨er,her2⟩:∃er,er=bb.err k1 v1:=⟨_,rfl⟩;rw[←her2] at hadd
        have hne:¬((er:Nat):Int)=0:=by omega
        have hb0:(((er:Nat):Int) != 0)=true:=by simpa using hne
        replace her2:=Lib.hid her2;replace hadd:=Lib.hid hadd;replace hA3:=Lib.hid hA3;replace her:=Lib.hid her;go_wp2_with fail
        refine hadd.out.mono ?_;rintro e w4 ⟨rfl,hb4⟩;go_wp2_with fail
        go_ret2
        refine⟨OpenIs.none_ ?_,(hbr2.out.trans (hb3.mono hbr2.out.size)).trans (hb4.mono (Nat.le_trans hbr2.out.size hz3))⟩;rw[hO.out,rdB_stop S c (i+1) (by omega) (by rw[rdB_succ hrd.out,hnp.out];simp only[];rw[if_neg her.out])]
     ·have hm4':¬(i:Int) % 4=0:=by omega
      have hst2:stR S (i+1)=stR S i:=if_neg hm4;rw[←hst2] at hI;obtain⟨W2,hW2⟩:∃x,x=wr:=⟨_,rfl⟩;obtain⟨vx2,hvx2⟩:∃x,x=vx:=⟨_,rfl⟩;subst hW2 hvx2;have hI2:=Lib.hid hI;have hA2:=Lib.hid hA;have hkv2:=Lib.hid hkv;have hX2:=hX;have hbr2:=Lib.hid hbr;replace hst2:=Lib.hid hst2;clear hkv hI hA hX hbr;have hnx:=Lib.hid (next_any (bs S) p (.slice Ak key.length ck) key W2 hkv2.out (by rw[bs_size];omega) (by rw[bs_size];omega) (by omega));have z0:W2.cell? ⟨w1.heap.size,0,none⟩=some (.string (bs S)):=hX2.cell 0;have zl:=hX2.lt
      try go_wp2_with fail
      refine hnx.out.mono ?_;rintro e w3 ⟨hnr,hb3⟩;rw[bs_data] at hnr
      cases hnp:nextP S p key with
      | none =>
       rw[hnp] at hnr;obtain rfl:=hnr;go_wp2_with fail
       go_ret2
       refine⟨OpenIs.none_ ?_,hbr2.out.trans (hb3.mono hbr2.out.size)⟩;rw[hO.out,rdB_stop S c (i+1) (by omega) (by rw[rdB_succ hrd.out,hnp])]
      | some r =>
       obtain⟨k1,v1,q⟩:=r;rw[hnp] at hnr;obtain⟨kv1,rfl,hr1,hm1⟩:=hnr
       have hk1l:k1.length≤1099511627776:=by
        have:=nextP_len hnp;omega
       have hA3:=hA2.out.below hb3;have hz3:=hb3.size;have htx:=hr1.text;obtain⟨A1,c1,rfl,_,_⟩:=hr1.form;replace hr1:=Lib.hid hr1;replace hm1:=Lib.hid hm1;replace hnp:=Lib.hid hnp
       have hq0:¬((q:Nat):Int)<0:=by omega
       by_cases her:bb.err k1 v1=0
       ·have hadd:=BAdd_ok hA3 (bs k1) (bs v1) (by rw[bs_data,bs_data];exact her) (by have:=hbr2.out.size;omega) (by omega) (by omega) (by omega) (by omega);rw[bs_data,bs_data] at hadd;replace hadd:=Lib.hid hadd;replace hA3:=Lib.hid hA3;replace her:=Lib.hid her;go_wp2_with fail
        refine hadd.out.mono ?_;rintro e w4 ⟨rfl,vb4,vs4,hA4,hk4,hmb4,hms4⟩;go_wp2_with fail
        have hz4:=hk4.size
        have hX4:Blk w4 (w1.heap.size) 181 _:=(hX2.below hb3 hX2.lt).keptB hk4 (fun e=>by
         rcases e with e | e | e
         ·omega
         ·exact own_blk_ne hA2.out.ob hX2 (by decide) e
         ·exact own_blk_ne hA2.out.os hX2 (by decide) e)
        have hr4:RdB w4 (.slice A1 k1.length c1) k1:=hr1.out.kept hk4 (fun k hk e=>by
         have hnew:=hm1.out;rcases e with e | e | e
         ·rcases hnew with e1 | ⟨x,e1,hx⟩
          ·exact (hsep.out k (by rw[←e1];exact hk)).2.1 e
          ·rw[hk] at e1;injection e1 with e1;have:=hA2.out.blk.lt;omega
         ·rcases hnew with e1 | ⟨x,e1,hx⟩
          ·exact (hsep.out k (by rw[←e1];exact hk)).1 e
          ·rw[hk] at e1;injection e1 with e1;have:=(own_lt hA2.out.ob k e).2;omega
         ·rcases hnew with e1 | ⟨x,e1,hx⟩
          ·exact (hsep.out k (by rw[←e1];exact hk)).2.2.1 e
          ·rw[hk] at e1;injection e1 with e1;have:=(own_lt hA2.out.os k e).2
           omega)
        have hI4:=own_kept (own_block hI2.out (fun k hk=>hb3.block k (own_lt hI2.out k hk).2)) hk4 (fun k hk e=>by
         rcases e with e | e | e
         ·exact own_blk_ne hI2.out hA2.out.blk (by decide) (by rw[hk,e])
         ·exact own_types hI2.out hA2.out.ob (by decide) k hk e
         ·exact own_types hI2.out hA2.out.os (by decide) k hk e)
        refine⟨⟨i+1,k1,q,bb.put k1 v1,es++[(k1,v1)],vx2,vb4,vs4,_,by omega,by go_num,rfl,by rw[rdB_succ hrd.out,hnp.out];simp only[];rw[if_pos her.out],hr4,hX4,hI4,hA4,fun k hk=>?_,?_⟩,by first | omega | (simp only[intOf];omega)⟩
        ·have hk3:k<w3.heap.size:=hr1.out.own k hk
         have hne:∀v v':Value,Moved w3 v v'→v.ownBlock≠some k→v'.ownBlock≠some k:=by
          intro v v' hm hn e;rcases hm with e1 | ⟨x,e1,hx⟩
          ·exact hn (by rw[←e1];exact e)
          ·rw[e] at e1;injection e1 with e1;omega
         have hnew:=hm1.out;refine⟨hne _ _ hmb4 ?_,?_,hne _ _ hms4 ?_,?_,?_⟩
         ·intro e;rcases hnew with e1 | ⟨x,e1,hx⟩
          ·exact (hsep.out k (by rw[←e1];exact hk)).1 e
          ·rw[hk] at e1;injection e1 with e1;have:=(own_lt hA2.out.ob k e).2;omega
         ·intro e;rcases hnew with e1 | ⟨x,e1,hx⟩
          ·exact (hsep.out k (by rw[←e1];exact hk)).2.1 e
          ·rw[hk] at e1;injection e1 with e1;have:=hA2.out.blk.lt;omega
         ·intro e;rcases hnew with e1 | ⟨x,e1,hx⟩
          ·exact (hsep.out k (by rw[←e1];exact hk)).2.2.1 e
          ·rw[hk] at e1;injection e1 with e1;have:=(own_lt hA2.out.os k e).2;omega
         ·intro e;rcases hnew with e1 | ⟨x,e1,hx⟩
          ·exact (hsep.out k (by rw[←e1];exact hk)).2.2.2.1 e
          ·rw[hk] at e1;injection e1 with e1;omega
         ·intro e;rcases hnew with e1 | ⟨x,e1,hx⟩
          ·exact (hsep.out k (by rw[←e1];exact hk)).2.2.2.2 e
          ·rw[hk] at e1;injection e1 with e1;have:=(own_lt hI2.out k e).2;omega
        ·refine hk4.below_of (hbr2.out.trans (hb3.mono hbr2.out.size)) (fun k e=>?_);rcases e with e | e | e
         ·have:=hA2.out.hB;omega
         ·exact (own_lt hA2.out.ob k e).1
         ·exact (own_lt hA2.out.os k e).1
       ·have hadd:=BAdd_err hA3 (bs k1) (bs v1) (by rw[bs_data,bs_data];exact her);rw[bs_data,bs_data] at hadd;obtain⟨er,her2⟩:∃er,er=bb.err k1 v1:=⟨_,rfl⟩;rw[←her2] at hadd
        have hne:¬((er:Nat):Int)=0:=by omega
        have hb0:(((er:Nat):Int) != 0)=true:=by simpa using hne
        replace her2:=Lib.hid her2;replace hadd:=Lib.hid hadd;replace hA3:=Lib.hid hA3;replace her:=Lib.hid her;go_wp2_with fail
        refine hadd.out.mono ?_;rintro e w4 ⟨rfl,hb4⟩;go_wp2_with fail
        go_ret2
        refine⟨OpenIs.none_ ?_,(hbr2.out.trans (hb3.mono hbr2.out.size)).trans (hb4.mono (Nat.le_trans hbr2.out.size hz3))⟩;rw[hO.out,rdB_stop S c (i+1) (by omega) (by rw[rdB_succ hrd.out,hnp.out];simp only[];rw[if_neg her.out])]
    ·obtain rfl:i=c:=by omega
     have hlt':¬(i:Int)<i:=by omega
     subst m1;obtain⟨hvb,hvl,hvs,hvc⟩:(foldB es).b.length≤1099511627776∧(foldB es).starts.length≤1099511627776∧(∀n∈(foldB es).starts,n<4294967296)∧(foldB es).count<4294967296:=⟨by omega,by omega,fun n hn=>by have:=l6 n hn;omega,by omega⟩;have hfin:=BFinish_any hA hBs hvb hvl hvs hvc;rw[hrd] at hO
     have hO2:openB s.data.toList=if (foldB es).out=s.data.toList then some es else none:=hO.out
     have hcmp:((bs (foldB es).out).toList==s.toList)=decide ((foldB es).out=s.data.toList):=by
      rw[bs_toList,ByteArray.toList_eq]
      by_cases he:(foldB es).out=s.data.toList
      ·rw[he];simp
      ·simp[he]
     replace hfin:=Lib.hid hfin
     by_cases he:(foldB es).out=s.data.toList
     ·rw[if_pos he] at hO2;have hst6:=foldB_starts es
      have hS:S=(foldB es).b:=by
       have h1:s.data.toList.take ev=S:=hSt.out;have h2:=BB.out_len (foldB es)
       have h3:s.data.toList.length=ev+4*(st+1):=by rw[dlen];exact hev.out
       have h4:=hst4.out;rw[←he] at h1 h3;unfold BB.size at h2;rw[h3,hst6,m3] at h2;rw[←h1];unfold BB.out;rw[show ev=(foldB es).b.length from by omega,List.take_left]
      have hstr:stR S i=(foldB es).starts:=by
       have:=stR_fold m2 es.length (Nat.le_refl _);rw[List.take_length] at this;rw[hS,←m3];exact this
      have hdec:decide ((foldB es).out=s.data.toList)=true:=by simpa using he
      rw[hdec] at hcmp;replace hO2:=Lib.hid hO2;replace hO:=Lib.hid hO.out;replace hS:=Lib.hid hS;replace hstr:=Lib.hid hstr;clear hdec he hst6;go_wp2_with fail
      refine hfin.out.mono ?_;rintro e w4 ⟨rfl,hA4,hk4⟩;go_wp2_with fail
      go_ret2
      obtain⟨Ax,cx,rfl⟩:=hI.form
      have hX4:=hX.keptB hk4 (fun e=>by
       rcases e with e | e | e
       ·omega
       ·exact own_blk_ne hA.ob hX (by decide) e
       ·exact own_blk_ne hA.os hX (by decide) e)
      have hI4:OwnI w4 w.heap.size _ (stR S i):=own_kept hI hk4 (fun k hk e=>by
       rcases e with e | e | e
       ·exact own_blk_ne hI hA.blk (by decide) (by rw[hk,e])
       ·exact own_types hI hA.ob (by decide) k hk e
       ·exact own_types hI hA.os (by decide) k hk e)
      have hrd4:=Reads.of_own hI4;rw[hstr.out] at hrd4 hX4;rw[hS.out,←m3] at hX4
      refine⟨OpenIs.some_ hO2.out hb1.size ⟨Ax,cx,hX4,hrd4,⟨m2,by omega,by rw[←hS.out];omega⟩,hb1.size,fun ad e hn=>by
       obtain⟨g',cap',he',_,_⟩:=World.ownsRow.form hI4 (by rw[hstr.out];exact hn);injection he' with he';rw[e] at he';injection he' with he';subst he'
       exact (own_lt hI4 g' (by rw[e];rfl)).1⟩,hk4.below_of hbr (fun k e=>?_)⟩
      rcases e with e | e | e
      ·have:=hA.hB;omega
      ·exact (own_lt hA.ob k e).1
      ·exact (own_lt hA.os k e).1
     ·rw[if_neg he] at hO2
      have hdec:decide ((foldB es).out=s.data.toList)=false:=by simpa using he
      rw[hdec] at hcmp;replace hO2:=Lib.hid hO2;replace hO:=Lib.hid hO.out;clear hdec he;go_wp2_with fail
      refine hfin.out.mono ?_;rintro e w4 ⟨rfl,hA4,hk4⟩;go_wp2_with fail
      go_ret2
      refine⟨OpenIs.none_ hO2.out,hk4.below_of hbr (fun k e=>?_)⟩;rcases e with e | e | e
      ·have:=hA.hB;omega
      ·exact (own_lt hA.ob k e).1
      ·exact (own_lt hA.os k e).1
set_option maxRecDepth 100000 in
set_option maxHeartbeats 4000000 in
theorem Len_any {w:World}{gx:Nat}{es:List (L × L)}(h:BkAt w gx es) :
  Calls Tryz.prog 86 #[.pointer (some ⟨gx,0,none⟩)] w fun e w'=>e=.returned (.int .i64 es.length)∧Below w.heap.size w w':=by
 obtain⟨A,cap,hX,hr,hv,hl1,hl2⟩:=h;have c2:w.cell? ⟨gx,2,none⟩=some (.int .i64 es.length):=hX.cell 2;have hlt:=hX.lt
 go_enter Tryz.func86,Tryz.ntmps86
 go_wp2_with fail
 go_ret
 exact⟨rfl,Below.refl _ _⟩
def AtV (o:Option (L × L)):Value:=match o with
 | some (k,v)=>.tuple #[.string (bs k),.string (bs v),.bool true]
 | none=>.tuple #[.string ⟨#[]⟩,.string ⟨#[]⟩,.bool false]
set_option maxRecDepth 100000 in
set_option maxHeartbeats 4000000 in
theorem At_none {w:World}{gx:Nat}{es:List (L × L)}(h:BkAt w gx es)(i:Nat)(hi:es.length≤i)(hi2:i≤4611686018427387904) :
  Calls Tryz.prog 87 #[.pointer (some ⟨gx,0,none⟩),.int .i64 (i:Nat)] w fun e w'=>e=.returned (AtV none)∧Below w.heap.size w w':=by
 have h0:¬(i:Int)<0:=by omega
 have h1:(es.length:Int)≤i:=by omega
 have hlen:=Lib.hid (Len_any h)
 go_enter Tryz.func87,Tryz.ntmps87
 go_wp2_with fail
 refine hlen.out.mono ?_;rintro e w1 ⟨rfl,hb1⟩;go_wp2_with fail
 go_ret3
 exact⟨rfl,hb1⟩
set_option maxRecDepth 100000 in
set_option maxHeartbeats 4000000 in
theorem At_some {w:World}{gx:Nat}{es:List (L × L)}(h:BkAt w gx es)(i:Nat)(k v:L)(hi:es[i]? = some (k,v)) :
  Calls Tryz.prog 87 #[.pointer (some ⟨gx,0,none⟩),.int .i64 (i:Nat)] w fun e w'=>e=.returned (AtV (some (k,v)))∧Below w.heap.size w w':=by
 have hlen:=Lib.hid (Len_any h);have hh:=h;obtain⟨A,cap,hX,hr,hv,hl1,hl2⟩:=h;have hil:i<es.length:=(List.getElem?_eq_some_iff.1 hi).1
 have h0:¬(i:Int)<0:=by omega
 have h1:¬(es.length:Int)≤i:=by omega
 have h1d:decide (es.length≤i)=false:=by simp;omega
 have c0:w.cell? ⟨gx,0,none⟩=some (.string (bs (foldB es).b)):=hX.cell 0;have c1:w.cell? ⟨gx,1,none⟩=some (.slice A (foldB es).starts.length cap):=hX.cell 1;have hlt:=hX.lt;have hsl:=foldB_starts es
 have hj:i / 4<(foldB es).starts.length:=by omega
 have hst:=starts_at (es:=es) (i / 4) (by omega);obtain⟨ad,u,rfl,hadB,hu,hcell⟩:=hr.at_ hj;rw[List.getElem?_map,hst] at hu;injection hu with hu;subst hu;obtain⟨ad0,u0,e0,_,_,hc0⟩:=hr.at_ (k:=0) (by omega);injection e0 with e0;subst e0;obtain⟨bb,oo,rfl⟩:=plain_cell hc0;clear hc0;rw[add_off] at hcell
 have hj4:(i:Int) / 4=((i / 4:Nat):Int):=by omega
 have hm4:(i:Int) % 4=((i % 4:Nat):Int):=by omega
 have hmm:4*(i / 4)+i % 4=i:=by omega
 have hm44:i % 4<4:=by omega
 generalize hjj:i / 4=j at *
 generalize hrr:i % 4=r at *
 have hps:posB es (4*j)≤1048576:=Nat.le_trans (posB_len es _) hl2;replace hv:=Lib.hid hv;clear hh;replace hi:=Lib.hid hi;replace hst:=Lib.hid hst;replace hjj:=Lib.hid hjj;replace hrr:=Lib.hid hrr;clear hr hX;have hadB':bb<w.heap.size:=hadB
 have hjI:((j:Nat):Int)<((foldB es).starts.length:Nat):=by omega
 go_enter Tryz.func87,Tryz.ntmps87
 go_wp2_with fail
 refine hlen.out.mono ?_;rintro e w1 ⟨rfl,hb1⟩;have d0:=(hb1.cell (p:=⟨gx,0,none⟩) hlt).trans c0;have d1:=(hb1.cell (p:=⟨gx,1,none⟩) hlt).trans c1;have d2:=(hb1.cell (p:=⟨bb,oo+j,none⟩) hadB').trans hcell;have hz1:=hb1.size;go_wp2_with fail
 have hmm':=Lib.hid hmm;clear hj4 hm4 hjI hj;replace hsl:=Lib.hid hsl
 go_loopw [5,7,8,28] (fun vv kv av xv wr=>∃x ky,x≤r+1∧xv=.int .i64 (x:Nat)∧av=.int .i64 (posB es (4*j+x):Nat)∧RdB wr kv ky∧(0<x→∃vl,es[4*j+x-1]? = some (ky,vl)∧vv=.string (bs vl))∧ky.length≤1024∧Below w.heap.size w wr) (fun _ _ _ xv _=>r+1-(intOf xv).toNat)
 case atStart=>exact⟨0,[],Nat.zero_le _,rfl,rfl,RdB.nil _,fun h=>absurd h (by omega),by simp,hb1⟩
 case round =>
  obtain⟨x,ky,hx,rfl,rfl,hkv,hval,hky,hbr⟩:=hrel;obtain⟨Ak,ck,rfl,_,_⟩:=hkv.form;have hzr:=hbr.size
  by_cases hlx:x<r+1
  ·have hlx':(x:Int)<r+1:=by omega
   have hil2:4*j+x<es.length:=by omega
   obtain⟨k1,v1,he⟩:∃k v,es[4*j+x]? = some (k,v):=⟨es[4*j+x].1,es[4*j+x].2,List.getElem?_eq_getElem hil2⟩
   have hnx:=next_at hv.out he ky (fun hm=>by
    have hx0:0<x:=by omega
    obtain⟨vl,h1,_⟩:=hval hx0
    exact⟨(ky,vl),h1,rfl⟩)
   have hpb:posB es (4*j+x)≤(foldB es).b.length:=posB_len es _;have hcall:=next_any (bs (foldB es).b) (posB es (4*j+x)) (.slice Ak ky.length ck) ky wr hkv (by rw[bs_size];exact hpb) (by rw[bs_size];omega) (by omega);rw[bs_data,hnx] at hcall;obtain⟨hk1,hv1⟩:=err_len (hv.out _ _ _ he);have e0:=(hbr.cell (p:=⟨gx,0,none⟩) hlt).trans c0;replace hcall:=Lib.hid hcall;replace hnx:=Lib.hid hnx;replace he:=Lib.hid he;replace hval:=Lib.hid hval;go_wp2_with fail
   refine hcall.out.mono ?_;rintro e w3 ⟨⟨kv1,rfl,hr1,_⟩,hb3⟩;go_wp2_with fail
   refine⟨⟨x+1,k1,by omega,by go_num,rfl,hr1,fun _=>⟨v1,he.out,rfl⟩,hk1,hbr.trans (hb3.mono hzr)⟩,by first | omega | (simp only[intOf];omega)⟩
  ·obtain rfl:x=r+1:=by omega
   have hlx':¬((r:Int)+1<r+1):=by omega
   obtain⟨vl,h1,rfl⟩:=hval (by omega)
   have hie:4*j+(r+1)-1=i:=by omega
   rw[hie,hi.out] at h1;injection h1 with h1;injection h1 with h1 h2;subst h1 h2;have htx:=hkv.text;go_wp2_with fail
   go_ret3
   exact⟨rfl,hbr⟩
structure SkAt (w:World)(gx c1 c2 c3:Nat)(es:List (L × L))(key:L):Prop where
 bk:BkAt w gx es
 p1:w.cell? ⟨c1,0,none⟩=some (.pointer (some ⟨gx,0,none⟩))
 p2:w.cell? ⟨c2,0,none⟩=some (.string (bs key))
 p3:w.cell? ⟨c3,0,none⟩=some (.func (.func 169) #[] #[.pointer (some ⟨c1,0,none⟩),.pointer (some ⟨c2,0,none⟩)])
theorem SkAt.below {w w':World}{gx c1 c2 c3:Nat}{es:List (L × L)}{key:L}(h:SkAt w gx c1 c2 c3 es key)(hb:Below w.heap.size w w'):SkAt w' gx c1 c2 c3 es key :=
 ⟨h.bk.below hb,(hb.cell (p:=⟨c1,0,none⟩) (cell_lt h.p1)).trans h.p1,(hb.cell (p:=⟨c2,0,none⟩) (cell_lt h.p2)).trans h.p2,(hb.cell (p:=⟨c3,0,none⟩) (cell_lt h.p3)).trans h.p3⟩
set_option maxRecDepth 100000 in
set_option maxHeartbeats 4000000 in
theorem below_any {w:World}{gx c1 c2 c3:Nat}{es:List (L × L)}{key:L}(h:SkAt w gx c1 c2 c3 es key)(i:Nat)(hi:i≤4611686018427387904) :
  Calls Tryz.prog 169 #[.int .i64 (i:Nat),.pointer (some ⟨c1,0,none⟩),.pointer (some ⟨c2,0,none⟩)] w fun e w'=>e=.returned (.bool (belowP es key i))∧Below w.heap.size w w':=by
 have p1:=h.p1;have p2:=h.p2;have l1:=cell_lt p1;have l2:=cell_lt p2;rcases he:es[i]? with _ | ⟨k,v⟩
 ·have hB:belowP es key i=false:=by unfold belowP;rw[he]
  have hat:=Lib.hid (At_none h.bk i (by
   rcases Nat.lt_or_ge i es.length with h' | h'
   ·rw[List.getElem?_eq_getElem h'] at he;cases he
   ·exact h') hi)
  replace he:=Lib.hid he;rw[hB]
  go_enter Tryz.func169,Tryz.ntmps169
  go_wp2_with fail
  refine hat.out.mono ?_;rintro e w1 ⟨rfl,hb1⟩;unfold AtV;go_wp2_with fail
  go_ret
  exact⟨rfl,hb1⟩
 ·have hB:belowP es key i=lessL k key:=by unfold belowP;rw[he]
  have hat:=Lib.hid (At_some h.bk i k v he)
  have hll:Op.bytesLess (bs k).toList (bs key).toList=lessL k key:=by rw[bs_toList,bs_toList];rfl
  replace he:=Lib.hid he;rw[hB]
  go_enter Tryz.func169,Tryz.ntmps169
  go_wp2_with fail
  refine hat.out.mono ?_;rintro e w1 ⟨rfl,hb1⟩;have q2:=(hb1.cell (p:=⟨c2,0,none⟩) l2).trans p2;have hz:=hb1.size;unfold AtV;go_wp2_with fail
  go_ret
  exact⟨rfl,hb1⟩
set_option maxRecDepth 100000 in
set_option maxHeartbeats 4000000 in
theorem notbelow_any {w:World}{gx c1 c2 c3:Nat}{es:List (L × L)}{key:L}(h:SkAt w gx c1 c2 c3 es key)(r:Nat)(hr:r≤1099511627776) :
  Calls Tryz.prog 171 #[.int .i64 (r:Nat),.pointer (some ⟨c3,0,none⟩)] w fun e w'=>e=.returned (.bool (!belowP es key (r*4)))∧Below w.heap.size w w':=by
 have p3:=h.p3;have l3:=cell_lt p3;obtain⟨q,hq⟩:∃q,q=r*4:=⟨_,rfl⟩;rw[←hq];have hb:=Lib.hid (below_any h q (by omega))
 have hr4:((r:Int)*4)=((q:Nat):Int):=by omega
 replace hq:=Lib.hid hq
 go_enter Tryz.func171,Tryz.ntmps171
 go_wp2_with fail
 refine hb.out.mono ?_;rintro e w1 ⟨rfl,hb1⟩;go_wp2_with fail
 go_ret
 exact⟨rfl,hb1⟩
set_option maxRecDepth 100000 in
set_option maxHeartbeats 4000000 in
theorem Search_any {w:World}{gx c1 c2 c3:Nat}{es:List (L × L)}{key:L}(h:SkAt w gx c1 c2 c3 es key)(n:Nat)(hn:n≤1048576) :
  Calls Tryz.prog 170 #[.int .i64 (n:Nat),.func (.func 171) #[] #[.pointer (some ⟨c3,0,none⟩)]] w fun e w'=>(∃r:Nat,e=.returned (.int .i64 (r:Nat))∧r≤n∧(0<r→belowP es key ((r-1)*4)=true))∧Below w.heap.size w w':=by
 go_enter Tryz.func170,Tryz.ntmps170
 go_wp2_with fail
 go_loopw [5,6] (fun lo hi wr=>∃a b:Nat,lo=.int .i64 (a:Nat)∧hi=.int .i64 (b:Nat)∧a≤b∧b≤n∧(0<a→belowP es key ((a-1)*4)=true)∧Below w.heap.size w wr) (fun lo hi _=>(intOf hi).toNat-(intOf lo).toNat)
 case atStart=>exact⟨0,n,rfl,rfl,Nat.zero_le _,Nat.le_refl _,fun h=>absurd h (by omega),Below.refl _ _⟩
 case round =>
  obtain⟨a,b,rfl,rfl,hab,hbn,hlo,hbr⟩:=hrel;have hlo':=Lib.hid hlo;clear hlo
  by_cases hlt:a<b
  ·have hlt':(a:Int)<b:=by omega
   obtain⟨m,hm⟩:∃m,m=(a+b) / 2:=⟨_,rfl⟩
   have hw1:IntKind.u64.wrap ((a:Int)+b)=(a:Int)+b:=by rw[IntKind.wrap_u64];omega
   have hw2:((a:Int)+b) / 2=(m:Nat):=by omega
   have hmb:m<b:=by omega
   have ham:a≤m:=by omega
   have hc:=Lib.hid (notbelow_any (h.below hbr) m (by omega));replace hm:=Lib.hid hm;rcases hq:belowP es key (m*4) with _ | _
   ·rw[hq] at hc;go_wp2_with fail
    refine hc.out.mono ?_;rintro e w1 ⟨rfl,hb1⟩;go_wp2_with fail
    exact⟨⟨a,m,rfl,rfl,ham,by omega,hlo'.out,hbr.trans (hb1.mono hbr.size)⟩,by first | omega | (simp only[intOf];omega)⟩
   ·rw[hq] at hc;replace hq:=Lib.hid hq;go_wp2_with fail
    refine hc.out.mono ?_;rintro e w1 ⟨rfl,hb1⟩;go_wp2_with fail
    exact⟨⟨m+1,b,by go_num,rfl,by omega,hbn,fun _=>hq.out,hbr.trans (hb1.mono hbr.size)⟩,by first | omega | (simp only[intOf];omega)⟩
  ·obtain rfl:a=b:=by omega
   have hlt':¬(a:Int)<a:=by omega
   go_wp2_with fail
   go_ret
   exact⟨⟨a,rfl,hbn,hlo'.out⟩,hbr⟩
set_option maxRecDepth 100000 in
set_option maxHeartbeats 4000000 in
theorem Seek_any {w:World}{gx:Nat}{es:List (L × L)}(h:BkAt w gx es)(key:L) :
  Calls Tryz.prog 130 #[.pointer (some ⟨gx,0,none⟩),.string (bs key)] w fun e w'=>e=.returned (.int .i64 (seekP es key:Nat))∧Below w.heap.size w w':=by
 have hlt:=h.lt;obtain⟨A,cap,hX,hr,hv,hl1,hl2⟩:=id h;have hsl:=foldB_starts es;have hb2:Below w.heap.size w ((w.alloc (.cells #[.pointer (some ⟨gx,0,none⟩)] 133)).alloc (.cells #[.string (bs key)] 9)):=((Below.refl _ _).alloc (Nat.le_refl _) _).alloc (by rw[World.size_alloc];omega) _;have h2:=h.below hb2;have hlen:=Lib.hid (Len_any h2);rcases Nat.eq_zero_or_pos es.length with h0 | h0
 ·have hR:seekP es key=0:=by have:=seekP_le es key;omega
  rw[hR];rw[h0] at hlen
  go_enter Tryz.func130,Tryz.ntmps130
  go_wp2_with fail
  refine hlen.out.mono ?_;rintro e w1 ⟨rfl,hb1⟩;go_wp2_with fail
  go_ret
  exact⟨rfl,hb2.trans (hb1.mono hb2.size)⟩
 ·have h0':¬(es.length:Int)=0:=by omega
  have c1:w.cell? ⟨gx,1,none⟩=some (.slice A (foldB es).starts.length cap):=hX.cell 1
  go_enter Tryz.func130,Tryz.ntmps130
  go_wp2_with fail
  refine hlen.out.mono ?_;rintro e w1 ⟨rfl,hb1⟩;have hz1:=hb1.size;rw[World.size_alloc,World.size_alloc] at hz1;have hB1:Blk w1 w.heap.size 133 #[.pointer (some ⟨gx,0,none⟩)]:=((Blk.new w _ _).alloc _).below hb1 (by rw[World.size_alloc,World.size_alloc];omega)
  have hB2:Blk w1 (w.heap.size+1) 9 #[.string (bs key)]:=by
   have:=(Blk.new (w.alloc (.cells #[.pointer (some ⟨gx,0,none⟩)] 133)) 9 #[.string (bs key)]).below hb1 (by have e1:=World.size_alloc (w.alloc (.cells #[.pointer (some ⟨gx,0,none⟩)] 133)) (.cells #[.string (bs key)] 9);omega)
   rwa [World.size_alloc] at this
  have d0:w1.cell? ⟨w.heap.size,0,none⟩=some (.pointer (some ⟨gx,0,none⟩)):=hB1.cell 0;have d1:w1.cell? ⟨w.heap.size+1,0,none⟩=some (.string (bs key)):=hB2.cell 0;have hbw:=hb2.trans (hb1.mono hb2.size);have d2:=(hbw.cell (p:=⟨gx,1,none⟩) hlt).trans c1;have e0:=hB1.lt;have e1:=hB2.lt
  have e2:gx<w1.heap.size:=by omega
  have hbw2:Below w.heap.size w (w1.alloc (.cells #[.func (.func 169) #[] #[.pointer (some ⟨w.heap.size,0,none⟩),.pointer (some ⟨w.heap.size+1,0,none⟩)]] 218)):=hbw.alloc (by omega) _
  have hsk:SkAt (w1.alloc (.cells #[.func (.func 169) #[] #[.pointer (some ⟨w.heap.size,0,none⟩),.pointer (some ⟨w.heap.size+1,0,none⟩)]] 218)) gx w.heap.size (w.heap.size+1) w1.heap.size es key :=
   ⟨h.below hbw2,(hB1.alloc _).cell 0,(hB2.alloc _).cell 0,(Blk.new w1 _ _).cell 0⟩
  have hsn:(foldB es).starts.length≤1048576:=by omega
  have hse:=Lib.hid (Search_any hsk (foldB es).starts.length hsn);replace hsl:=Lib.hid hsl;go_wp2_with fail
  refine hse.out.mono ?_;rintro e w3 ⟨⟨r,rfl,hrn,hr0⟩,hb3⟩;have hsk3:=hsk.below hb3;have hb03:=hbw2.trans (hb3.mono hbw2.size)
  obtain⟨i0,hi0,hi1,hi2⟩:∃i0:Nat,4*max ((r:Int)-1) 0=(i0:Nat)∧i0≤es.length∧∀j,j<i0→belowP es key j=true:=by
   rcases Nat.eq_zero_or_pos r with hr | hr
   ·exact⟨0,by omega,Nat.zero_le _,fun j hj=>absurd hj (by omega)⟩
   ·have hm:=hr0 hr;refine⟨(r-1)*4,by omega,?_,fun j hj=>below_mono hv (by omega) hm⟩;rcases Nat.lt_or_ge ((r-1)*4) es.length with h' | h'
    ·omega
    ·unfold belowP at hm;rw[List.getElem?_eq_none h'] at hm;cases hm
  have hmx:((i0:Nat):Int)≤1048576:=by omega
  replace hr0:=Lib.hid hr0;replace hi2:=Lib.hid hi2;clear d0 d1 d2;have q1:=hsk3.p1;have q3:=hsk3.p3;have g1:=cell_lt q1;have g3:=cell_lt q3
  have hrb:r≤1048576:=by omega
  go_wp2_with fail
  clear hi0 hrb hmx
  go_loopw [6] (fun iv wr=>∃i:Nat,iv=.int .i64 (i:Nat)∧i≤es.length∧(∀j,j<i→belowP es key j=true)∧Below w3.heap.size w3 wr) (fun iv _=>es.length-(intOf iv).toNat)
  case atStart=>exact⟨i0,rfl,hi1,hi2.out,Below.refl _ _⟩
  case round =>
   obtain⟨i,rfl,hil,hal,hbr⟩:=hrel;have hskr:=hsk3.below hbr;have p3:=hskr.p3;have lp3:=cell_lt p3;have hc:=Lib.hid (below_any hskr i (by omega));have hbi:=hb03.trans (hbr.mono hb03.size);replace hal:=Lib.hid hal;rcases hq:belowP es key i with _ | _
   ·rw[hq] at hc;have hR:=seekP_eq key es i hal.out hq;replace hq:=Lib.hid hq;replace hR:=Lib.hid hR;go_wp2_with fail
    refine hc.out.mono ?_;rintro e w4 ⟨rfl,hb4⟩;go_wp2_with fail
    go_ret
    exact⟨by rw[hR.out];rfl,hbi.trans (hb4.mono hbi.size)⟩
   ·rw[hq] at hc
    have hil2:i<es.length:=by
     rcases Nat.lt_or_ge i es.length with h' | h'
     ·exact h'
     ·unfold belowP at hq;rw[List.getElem?_eq_none h'] at hq;cases hq
    replace hq:=Lib.hid hq;go_wp2_with fail
    refine hc.out.mono ?_;rintro e w4 ⟨rfl,hb4⟩;go_wp2_with fail
    refine⟨⟨i+1,by go_num,by omega,fun j hj=>?_,hbr.trans (hb4.mono hbr.size)⟩,by first | omega | (simp only[intOf];omega)⟩
    rcases Nat.lt_or_ge j i with h' | h'
    ·exact hal.out j h'
    ·obtain rfl:j=i:=by omega
     exact hq.out
def TTAt (w:World)(gt:Nat)(f:L)(ix:List (L × L))(bls:List (List (L × L))):Prop:=∃gi A cap,∃gs:List Nat,Blk w gt 136 #[.string (bs f),.pointer (some ⟨gi,0,none⟩),.slice A gs.length cap]∧BkAt w gi ix∧Reads w w.heap.size 1 A gs.length (gs.map fun g=>Value.pointer (some ⟨g,0,none⟩))∧gs.length=bls.length∧∀(i g:Nat) (b:List (L × L)),gs[i]? = some g→bls[i]? = some b→BkAt w g b
def TTF (F:Nat→Prop)(w:World)(gt:Nat)(f:L)(ix:List (L × L))(bls:List (List (L × L))):Prop:=∃gi A cap,∃gs:List Nat,Blk w gt 136 #[.string (bs f),.pointer (some ⟨gi,0,none⟩),.slice A gs.length cap]∧BkF F w gi ix∧Reads w w.heap.size 1 A gs.length (gs.map fun g=>Value.pointer (some ⟨g,0,none⟩))∧gs.length=bls.length∧(∀(i g:Nat) (b:List (L × L)),gs[i]? = some g→bls[i]? = some b→BkF F w g b)∧F gt∧∀ad,A=some ad→0<gs.length→F ad.block
theorem TTF.at_ {F:Nat→Prop}{w:World}{gt:Nat}{f:L}{ix:List (L × L)}{bls:List (List (L × L))}(h:TTF F w gt f ix bls):TTAt w gt f ix bls:=by
 obtain⟨gi,A,cap,gs,h1,h2,h3,h4,h5,h6,h7⟩:=h;exact⟨gi,A,cap,gs,h1,h2.at_,h3,h4,fun i g b hg hb=>(h5 i g b hg hb).at_⟩
theorem TTF.kept {F S:Nat→Prop}{w w':World}{gt:Nat}{f:L}{ix:List (L × L)}{bls:List (List (L × L))}(h:TTF F w gt f ix bls)(hk:KeptBut w w' S)(hd:∀k,F k→¬S k):TTF F w' gt f ix bls:=by
 obtain⟨gi,A,cap,gs,h1,h2,h3,h4,h5,h6,h7⟩:=h;exact⟨gi,A,cap,gs,h1.keptB hk (hd _ h6),h2.kept hk hd,reads_kept hk h3 (fun ad e hn=>hd _ (h7 ad e hn)),h4,fun i g b hg hb=>(h5 i g b hg hb).kept hk hd,h6,h7⟩
end Go.Proofs.YtlpojfgeocpkeaaGreatDoor
