/- Contracts of the law: Great. Contracts of the law: some. The order of internal keys. No program in sight. Package table, plain: entries' order by their internal keys. Package table, plain: what a builder's run leaves. Package table, plain: what was built opens. -/
import Derived.Test.YtlpojfgeocpkeaaGreatDoorJL2J
import Derived.Test.YtlpojfgeocpkeaaGreatDoorX11
import Derived.Test.YtlpojfgeocpkeaaGreatDoorX23
namespace Go.Proofs.YtlpojfgeocpkeaaGreatDoor
open Go.RowKit Go.Sort
set_option linter.unusedVariables false
set_option linter.unusedSimpArgs false
def szE (l:List Ent):Nat:=(l.map fun e=>e.key.length+e.value.length).sum
def szL (ls:List EL):Nat:=(ls.map fun x=>szE x.l).sum
theorem szE_take {l:List Ent}{k:Nat}(h:k<l.length):szE (l.take (k+1))=szE (l.take k)+(l[k].key.length+l[k].value.length):=by
 unfold szE;rw[List.take_succ_eq_append_getElem h,List.map_append,List.sum_append];simp
theorem szL_take {ls:List EL}{k:Nat}(h:k<ls.length):szL (ls.take (k+1))=szL (ls.take k)+szE ls[k].l:=by
 unfold szL;rw[List.take_succ_eq_append_getElem h,List.map_append,List.sum_append];simp
def okE (l:List Ent):Prop:=l.length≤60∧∀e∈l,e.key.length≤20000∧e.value.length≤20000
set_option maxRecDepth 100000 in
set_option maxHeartbeats 8000000 in
theorem Great_any {w:World}{A:Option Addr}{ls:List EL}{cap:Nat}(h:LsAt w w.heap.size A ls)(hL:ls.length≤9223372036854775807)(hs:∀x∈ls,x.l.length≤9223372036854775807∧∀e∈x.l,e.key.length≤9223372036854775807∧e.value.length≤9223372036854775807) :
  Calls Tryz.prog 7 #[.slice A ls.length cap] w fun e w'=>∃rb,e=.returned (.bool rb)∧(rb=false→ls.length≤6∧(∀x∈ls,okE x.l)∧szL ls≤20000)∧Below w.heap.size w w':=by
 obtain⟨N,hN⟩:∃N,ls.length=N:=⟨_,rfl⟩;rw[hN] at hL ⊢
 by_cases h6:6<N
 ·have h6':(6:Int)<N:=by omega
  go_enter Tryz.func7,Tryz.ntmps7
  go_wp2_with fail
  go_ret
  exact⟨true,rfl,(fun e=>by cases e),Below.refl _ _⟩
 have h6':¬(6:Int)<N:=by omega
 replace h:=Lib.hid h;replace hs:=Lib.hid hs
 go_enter Tryz.func7,Tryz.ntmps7
 go_wp2_with fail
 go_loopw [3,4,5,6] (fun nv iv _ _ wr=>∃(i n:Nat),i≤N∧iv=.int .i64 (i:Nat)∧nv=.int .i64 (n:Nat)∧n=szL (ls.take i)∧n≤i*2400000∧(∀x∈ls.take i,okE x.l)∧Below w.heap.size w wr) (fun _ iv _ _ _=>N-(intOf iv).toNat)
 case atStart=>exact⟨0,0,Nat.zero_le _,rfl,rfl,rfl,Nat.zero_le _,(fun x hx=>by simp at hx),Below.refl _ _⟩
 case round =>
  obtain⟨i,n,hi,rfl,rfl,hn,hnb,hok,hbr⟩:=hrel;have hzr:=hbr.size
  by_cases hlt:i<N
  ·have hlt':(i:Int)<N:=by omega
   have hil:i<ls.length:=by omega
   have hxi:=List.getElem?_eq_getElem hil;have hxm:=List.getElem_mem hil;have hts:=szL_take hil;have htm:ls.take (i+1)=ls.take i++[ls[i]]:=List.take_succ_eq_append_getElem hil
   generalize ls[i]=x at *
   obtain⟨bb,oo,hA,hbb,hcell⟩:=(h.out.below hbr).at_ hxi;obtain⟨hxl,hxs⟩:=hs.out x hxm;obtain⟨hxr,hxq⟩:=h.out.each x hxm
   have hbl:bb<wr.heap.size:=by omega
   rw[←hn] at hts;replace hn:=Lib.hid hn;replace hts:=Lib.hid hts;replace htm:=Lib.hid htm;replace hok:=Lib.hid hok;replace hbr:=Lib.hid hbr;replace hxs:=Lib.hid hxs;replace hxq:=Lib.hid hxq;replace hxr:=Lib.hid hxr;rw[hA];replace hA:=Lib.hid hA;replace hxi:=Lib.hid hxi;obtain⟨wo,rfl⟩:∃wo,wo=wr:=⟨_,rfl⟩;obtain⟨M,hM⟩:∃M,x.l.length=M:=⟨_,rfl⟩;rw[hM] at hcell hxl
   by_cases h60:60<M
   ·have h60':(60:Int)<M:=by omega
    go_wp2_with fail
    go_ret
    exact⟨true,rfl,(fun e=>by cases e),hbr.out⟩
   have h60':¬(60:Int)<M:=by omega
   go_wp2_with fail
   go_loopw [3,5,6] (fun nv kv _ ws=>∃(k m:Nat),k≤M∧kv=.int .i64 (k:Nat)∧nv=.int .i64 (m:Nat)∧m=n+szE (x.l.take k)∧m≤n+k*40000∧(∀e∈x.l.take k,e.key.length≤20000∧e.value.length≤20000)∧Below wo.heap.size wo ws) (fun _ kv _ _=>M-(intOf kv).toNat)
   case atStart=>exact⟨0,n,Nat.zero_le _,rfl,rfl,rfl,Nat.le_refl _,(fun e he=>by simp at he),Below.refl _ _⟩
   case round =>
    obtain⟨k,m,hk,rfl,rfl,hm,hmb,hek,hbs⟩:=hrel;have hzs:=hbs.size;have hcell2:=(hbs.cell (p:=⟨bb,oo+i,none⟩) hbl).trans hcell
    have hbl2:bb<wr.heap.size:=by omega
    have hbws:=hbr.out.trans (hbs.mono hzr)
    by_cases hkl:k<M
    ·have hkl':(k:Int)<M:=by omega
     have hkn:k<x.l.length:=by omega
     have hei:=List.getElem?_eq_getElem hkn;have hem:=List.getElem_mem hkn;have hse:=szE_take hkn;have hte:x.l.take (k+1)=x.l.take k++[x.l[k]]:=List.take_succ_eq_append_getElem hkn
     generalize x.l[k]=e at *
     obtain⟨b1,o1,hxA,hb1,c0,c1,c2,c3⟩:=ent_at (hxr.out.below hbws) hei
     have hb1l:b1<wr.heap.size:=by have:=hbws.size;omega
     obtain⟨hk1,hk2⟩:=hxs.out e hem;have k1:(bs e.key).size=e.key.length:=bs_size _;have k2:(bs e.value).size=e.value.length:=bs_size _;obtain⟨KL,hKL⟩:∃KL,e.key.length=KL:=⟨_,rfl⟩;obtain⟨VL,hVL⟩:∃VL,e.value.length=VL:=⟨_,rfl⟩;rw[hKL] at k1 hk1 hse;rw[hVL] at k2 hk2 hse;rw[hxA] at hcell2;replace hxA:=Lib.hid hxA;replace hei:=Lib.hid hei;replace hm:=Lib.hid hm;replace hse:=Lib.hid hse;replace hte:=Lib.hid hte;replace hek:=Lib.hid hek;replace hbs:=Lib.hid hbs;replace hbws:=Lib.hid hbws
     by_cases b1k:20000<KL
     ·have b1k':(20000:Int)<KL:=by omega
      go_wp2_with fail
      go_ret
      exact⟨true,rfl,(fun e=>by cases e),hbws.out.alloc (by have:=hbws.out.size;omega) _⟩
     ·have b1k':¬(20000:Int)<KL:=by omega
      by_cases b2k:20000<VL
      ·have b2k':(20000:Int)<VL:=by omega
       go_wp2_with fail
       go_ret
       exact .inr ⟨rfl,hbws.out.alloc (by have:=hbws.out.size;omega) _⟩
      ·have b2k':¬(20000:Int)<VL:=by omega
       go_wp2_with fail
       have hb3:Below wo.heap.size wo (wr.alloc (.cells #[.string (bs e.key),.string (bs e.value),.int .u64 (e.seq:Nat),.bool e.gone] 46)):=hbs.out.alloc hzs _
       exact⟨⟨k+1,m+KL+VL,by omega,by go_num,by go_num,by rw[hse.out,hm.out];omega,by omega,fun e2 he2=>by
        rw[hte.out] at he2;rcases List.mem_append.1 he2 with q | q
        ·exact hek.out e2 q
        ·rw[List.mem_singleton.1 q];exact⟨by omega,by omega⟩,hb3⟩,by simp[intOf];omega⟩
    ·obtain rfl:k=M:=by omega
     have hkl':¬(k:Int)<k:=by omega
     have hxok:okE x.l:=⟨by omega,by rw[List.take_of_length_le (by omega)] at hek;exact hek⟩;rw[List.take_of_length_le (by omega)] at hm
     have hnew:(∀y∈ls.take (i+1),okE y.l):=fun y hy=>by
      rw[htm.out] at hy;rcases List.mem_append.1 hy with q | q
      ·exact hok.out y q
      ·rw[List.mem_singleton.1 q];exact hxok
     have hmn:m=szL (ls.take (i+1)):=by rw[hts.out,hm]
     replace hnew:=Lib.hid hnew;replace hmn:=Lib.hid hmn;replace hm:=Lib.hid hm;replace hek:=Lib.hid hek;replace hbws:=Lib.hid hbws;replace hbs:=Lib.hid hbs;replace hxok:=Lib.hid hxok;go_wp2_with fail
     exact⟨⟨i+1,m,by omega,by go_num,rfl,hmn.out,by omega,hnew.out,hbws.out⟩,by simp[intOf];omega⟩
  ·obtain rfl:i=N:=by omega
   have hlt':¬(i:Int)<i:=by omega
   rw[List.take_of_length_le (by omega)] at hn hok;replace hok:=Lib.hid hok;replace hn:=Lib.hid hn;replace hbr:=Lib.hid hbr
   by_cases h2:20000<n
   ·have h2':(20000:Int)<n:=by omega
    go_wp2_with fail
    go_ret
    exact .inr ⟨rfl,hbr.out⟩
   ·have h2':¬(20000:Int)<n:=by omega
    go_wp2_with fail
    go_ret
    exact .inl ⟨rfl,⟨by omega,hok.out,by rw[←hn.out];omega⟩,hbr.out⟩
def fullP (x:EL):Bool:=decide (0<x.l.length)
theorem OwnLL.ls {w:World}{B:Nat}{A:Option Addr}{c:Nat}{os:List EL}(h:OwnLL w B (.slice A os.length c) os)(hq:∀x∈os,∀e∈x.l,e.seq<18446744073709551616):LsAt w w.heap.size A os :=
 ⟨Reads.of_own h.row,fun x hx=>by
  obtain⟨A',c',e,hr⟩:=(h.each x hx).reads;injection e with e1 _ e3
  exact⟨e1 ▸ hr,hq x hx⟩⟩
theorem rightE_mem {l:List Ent}{e:Ent}(h:e∈rightE l):e∈l∧fitsE e=true:=List.mem_filter.1 (mergeE_mem h)
theorem rightE_len (l:List Ent):(rightE l).length≤l.length:=Nat.le_trans (mergeE_len _) (List.length_filter_le _ _)
theorem rightE_strict (l:List Ent):(rightE l).Pairwise fun x y=>ltE x y=true:=mergeE_strict _
set_option maxRecDepth 100000 in
set_option maxHeartbeats 8000000 in
theorem some_any {w:World}{A:Option Addr}{ls:List EL}{cap:Nat}(h:LsAt w w.heap.size A ls)(hn:ls.length≤1000)(hl:∀x∈ls,x.l.length≤1000000) :
  Calls Tryz.prog 21 #[.slice A ls.length cap] w fun e w'=>∃v,e=.returned v∧w'.ownsRow w.heap.size 44 1 v (ls.filter fullP).length ((ls.filter fullP).flatMap elV)∧Below w.heap.size w w':=by
 obtain⟨j0,hj0,hy0,hy1,hy2⟩:=info_parts sl_info;obtain⟨N,hN⟩:∃N,ls.length=N:=⟨_,rfl⟩;rw[hN] at hn ⊢;replace h:=Lib.hid h;replace hl:=Lib.hid hl
 go_enter Tryz.func21,Tryz.ntmps21
 go_wp2_with fail
 go_loopw [3,4] (fun ov iv wr=>∃(i:Nat),i≤N∧iv=.int .i64 (i:Nat)∧wr.ownsRow w.heap.size 44 1 ov ((ls.take i).filter fullP).length (((ls.take i).filter fullP).flatMap elV)∧Below w.heap.size w wr) (fun _ iv _=>N-(intOf iv).toNat)
 case atStart=>exact⟨0,Nat.zero_le _,rfl,World.ownsRow_nil _ _ _ 1,Below.refl _ _⟩
 case round =>
  obtain⟨i,hi,rfl,ho,hbr⟩:=hrel;have hzr:=hbr.size
  by_cases hlt:i<N
  ·have hlt':(i:Int)<N:=by omega
   have hil:i<ls.length:=by omega
   have hxi:=List.getElem?_eq_getElem hil;have hxm:=List.getElem_mem hil
   have hts:(ls.take (i+1)).filter fullP=(ls.take i).filter fullP++(if fullP ls[i] then [ls[i]] else []):=by
    rw[List.take_succ_eq_append_getElem hil,List.filter_append]
    congr 1
    cases hq:fullP ls[i]<;>simp[hq]
   have hfl:((ls.take i).filter fullP).length≤i:=by
    have h1:=List.length_filter_le fullP (ls.take i);rw[List.length_take] at h1;omega
   generalize ls[i]=x at *
   obtain⟨bb,oo,hA,hbb,hcell⟩:=(h.out.below hbr).at_ hxi;have hxl:=hl.out x hxm
   have hbl:bb<wr.heap.size:=by omega
   generalize (ls.take i).filter fullP=F at *
   obtain⟨VA,Vc,hvf⟩:∃A c,u3=.slice A F.length c:=by
    rcases ho.2 with⟨rfl,e⟩ | ⟨g,cap,cur,rfl,_⟩
    ·exact⟨none,0,by rw[e]⟩
    ·exact⟨_,cap,rfl⟩
   subst hvf;obtain⟨M,hM⟩:∃M,x.l.length=M:=⟨_,rfl⟩
   have hx1:elV x=[.slice x.A M x.c]:=by unfold elV;rw[hM]
   rw[hM] at hcell hxl;rw[hA];replace hA:=Lib.hid hA;replace hxi:=Lib.hid hxi;replace hx1:=Lib.hid hx1
   by_cases hp:0<M
   ·have hp':(0:Int)<M:=by omega
    have hf:fullP x=true:=by unfold fullP;rw[hM];simpa using hp
    rw[hf,if_pos rfl] at hts;replace hts:=Lib.hid hts;replace hf:=Lib.hid hf;have hoa:=own_block (w':=wr.alloc (.cells #[.slice x.A M x.c] 44)) ho (fun j hj=>Below.heap_alloc wr _ j (own_lt ho j hj).2);replace hbr:=Lib.hid hbr;replace ho:=Lib.hid ho
    go_wp2_with (at_builtin;refine wpList_append_any _ rfl (.tmp 17) (.tmp 22) _ rfl w.heap.size 44 j0 _ 1 24 Tryz.underlying22 hj0 hy0 hy1 hy2 rfl (by omega) _ F.length (F.flatMap elV) rfl hoa (wr.heap.size+1) (some ⟨wr.heap.size,0,none⟩) 1 1 [.slice x.A M x.c] rfl ?c0 ?c1 ?c2 ?c3 ?c4 ?_;rotate_left 5;intro v6 w6 ho6 hg6 hat6)
    case c0=>exact one_sl wr _ _
    case c1=>intro u hu;simp at hu;subst hu;rfl
    case c2=>simp only[maxLen];omega
    case c3=>omega
    case c4=>first | omega | (simp;omega)
    have hb6:Below w.heap.size w w6:=((hbr.out.alloc (by omega) _).grown hg6 (by simp;omega) (fun j hj=>(own_lt hoa j hj).1))
    have he6:((ls.take (i+1)).filter fullP).length=F.length+1∧((ls.take (i+1)).filter fullP).flatMap elV=F.flatMap elV++[.slice x.A M x.c]:=by
     rw[hts.out];simp[hx1.out]
    exact⟨⟨i+1,by omega,by go_num,by rw[he6.1,he6.2];exact ho6,hb6⟩,by simp[intOf];omega⟩
   ·have hp':¬(0:Int)<M:=by omega
    have hf:fullP x=false:=by unfold fullP;rw[hM];simpa using hp
    rw[hf] at hts;replace hts:=Lib.hid hts;replace hf:=Lib.hid hf;replace hbr:=Lib.hid hbr;replace ho:=Lib.hid ho;go_wp2_with fail
    exact⟨⟨i+1,by omega,by go_num,by rw[hts.out];simpa using ho.out,hbr.out⟩,by simp[intOf];omega⟩
  ·obtain rfl:i=N:=by omega
   have hlt':¬(i:Int)<i:=by omega
   rw[List.take_of_length_le (by omega)] at ho;replace ho:=Lib.hid ho;replace hbr:=Lib.hid hbr;go_wp2_with fail
   go_ret
   exact⟨_,rfl,ho.out,hbr.out⟩
end Go.Proofs.YtlpojfgeocpkeaaGreatDoor
namespace Go.Proofs.YtlpojfgeocpkeaaGreatDoor
set_option linter.unusedVariables false
set_option linter.unusedSimpArgs false
theorem less_cons (a:UInt8)(x y:L):lessL (a::x) (a::y)=lessL x y:=by unfold lessL;simp[Op.bytesLess]
theorem less_app (p x y:L):lessL (p++x) (p++y)=lessL x y:=by
 induction p with
 | nil=>rfl
 | cons a p ih=>rw[List.cons_append,List.cons_append,less_cons,ih]
theorem less_head {a b:UInt8}(h:a<b)(x y:L):lessL (a::x) (b::y)=true:=by unfold lessL;simp[Op.bytesLess,h]
theorem u8_pos {a:UInt8}(h:a≠0):0<a:=by
 rw[UInt8.lt_iff_toNat_lt];have:a.toNat≠0:=fun e=>h (UInt8.toNat_inj.1 e);show 0<a.toNat;omega
theorem esc_less:∀(k k' x y:L),lessL k k'=true→lessL (escL k++0::1::x) (escL k'++0::1::y)=true
 | k,[],x,y,h=>by cases k<;>simp[lessL,Op.bytesLess] at h
 | [],b::k',x,y,h=>by
  by_cases hb:b=0
  ·subst hb;rw[escL,escL,if_pos rfl];show lessL (0::1::x) (0::255::_)=true;rw[less_cons];exact less_head (by decide) _ _
  ·rw[escL,escL,if_neg hb];exact less_head (u8_pos hb) _ _
 | a::k,b::k',x,y,h=>by
  by_cases hab:a=b
  ·subst hab;rw[less_cons] at h;have ih:=esc_less k k' x y h
   by_cases ha:a=0
   ·subst ha;rw[escL,escL,if_pos rfl];show lessL (0::255::(escL k++_)) (0::255::(escL k'++_))=true;rw[less_cons,less_cons];exact ih
   ·rw[escL,escL,if_neg ha,if_neg ha];show lessL (a::(escL k++_)) (a::(escL k'++_))=true;rw[less_cons];exact ih
  ·have hlt:a<b:=by
    unfold lessL at h;simp only[Op.bytesLess,Bool.or_eq_true,Bool.and_eq_true,decide_eq_true_eq,beq_iff_eq] at h;exact h.resolve_right fun q=>hab q.1
   have hb:b≠0:=by
    intro e;subst e;rw[UInt8.lt_iff_toNat_lt] at hlt;exact absurd hlt (Nat.not_lt_zero _)
   rw[escL,escL,if_neg hb]
   by_cases ha:a=0
   ·rw[if_pos ha];exact less_head (u8_pos hb) _ _
   ·rw[if_neg ha];exact less_head hlt _ _
theorem bigL_mod:∀(w k:Nat),bigL k w=bigL (k % 256 ^ w) w:=by
 intro w
 suffices h:∀(v w k:Nat),w≤v→bigL (k % 256 ^ v) w=bigL k w from fun k=>(h w w k (Nat.le_refl _)).symm
 intro v w
 induction w with
 | zero=>intro k _;rfl
 | succ w ih =>
  intro k hv;show UInt8.ofNat (k % 256 ^ v / 256 ^ w)::bigL (k % 256 ^ v) w=UInt8.ofNat (k / 256 ^ w)::bigL k w;rw[ih k (by omega)]
  congr 1
  apply UInt8.toNat_inj.1
  rw[UInt8.toNat_ofNat',UInt8.toNat_ofNat'];obtain⟨d,rfl⟩:∃d,v=w+1+d:=⟨v-(w+1),by omega⟩
  have e:256 ^ (w+1+d)=256 ^ w*(256*256 ^ d):=by rw[Nat.pow_add,Nat.pow_succ,Nat.mul_assoc]
  have e2:(2:Nat) ^ 8=256:=by decide
  rw[e,Nat.mod_mul_right_div_self,e2,Nat.mod_mod_of_dvd _ (Nat.dvd_mul_right _ _)]
theorem big_less:∀(w n m:Nat),n<256 ^ w→m<256 ^ w→n<m→lessL (bigL n w) (bigL m w)=true
 | 0,n,m,hn,hm,h=>by simp at hn hm;omega
 | w+1,n,m,hn,hm,h=>by
  have hp:0<256 ^ w:=Nat.pow_pos (by omega)
  have hn1:n / 256 ^ w<256:=by rw[Nat.div_lt_iff_lt_mul hp];rw[Nat.pow_succ] at hn;omega
  have hm1:m / 256 ^ w<256:=by rw[Nat.div_lt_iff_lt_mul hp];rw[Nat.pow_succ] at hm;omega
  have hle:n / 256 ^ w≤m / 256 ^ w:=Nat.div_le_div_right (by omega);have hmod:∀k,bigL k w=bigL (k % 256 ^ w) w:=fun k=>bigL_mod w k;show lessL (UInt8.ofNat (n / 256 ^ w)::bigL n w) (UInt8.ofNat (m / 256 ^ w)::bigL m w)=true;rcases Nat.lt_or_ge (n / 256 ^ w) (m / 256 ^ w) with hlt | hge
  ·refine less_head ?_ _ _;rw[UInt8.lt_iff_toNat_lt,UInt8.toNat_ofNat',UInt8.toNat_ofNat'];generalize n / 256 ^ w=a at hn1 hlt
   generalize m / 256 ^ w=b at hm1 hlt
   have e2:(2:Nat) ^ 8=256:=by decide
   rw[e2,Nat.mod_eq_of_lt hn1,Nat.mod_eq_of_lt hm1];exact hlt
  ·have he:n / 256 ^ w=m / 256 ^ w:=by omega
   rw[he,less_cons,hmod n,hmod m];refine big_less w _ _ (Nat.mod_lt _ hp) (Nat.mod_lt _ hp) ?_;have h1:=Nat.div_add_mod n (256 ^ w);have h2:=Nat.div_add_mod m (256 ^ w);rw[he] at h1;omega
theorem internalL_eq (k:L)(q:Nat):internalL k q=2::(escL k++0::1::bigL (18446744073709551615-q) 8):=by
 unfold internalL strKey;simp
theorem internal_lt_key {k k':L}(q q':Nat)(h:lessL k k'=true):lessL (internalL k q) (internalL k' q')=true:=by
 rw[internalL_eq,internalL_eq,less_cons];exact esc_less k k' _ _ h
theorem internal_lt_seq (k:L){q q':Nat}(hq:q≤18446744073709551615)(h:q'<q):lessL (internalL k q) (internalL k q')=true:=by
 rw[internalL_eq,internalL_eq,less_cons,less_app,less_cons,less_cons]
 have e:(256:Nat) ^ 8=18446744073709551616:=by decide
 exact big_less 8 _ _ (by omega) (by omega) (by omega)
theorem less_total (a b:L):lessL a b=true∨a=b∨lessL b a=true:=by
 have:=less_tri a b;rcases h:lessL b a with _ | _
 ·rw[h] at this;simp at this;rcases this with h1 | h1
  ·exact .inl h1
  ·exact .inr (.inl h1)
 ·exact .inr (.inr rfl)
theorem internal_less {k k':L}{q q':Nat}(hq:q≤18446744073709551615)(hq':q'≤18446744073709551615):lessL (internalL k q) (internalL k' q')=true↔lessL k k'=true∨k=k'∧q'<q:=by
 constructor
 ·intro h;rcases less_total k k' with h1 | h1 | h1
  ·exact .inl h1
  ·subst h1;rcases Nat.lt_trichotomy q' q with h2 | h2 | h2
   ·exact .inr ⟨rfl,h2⟩
   ·subst h2;rw[less_irrefl] at h;cases h
   ·have:=internal_lt_seq k hq' h2;rw[less_asymm h] at this;cases this
  ·have:=internal_lt_key q' q h1;rw[less_asymm h] at this;cases this
 ·rintro (h | ⟨rfl,h⟩)
  ·exact internal_lt_key _ _ h
  ·exact internal_lt_seq _ hq h
def rowE (e:Ent):L × L:=(rowK e,rowV e)
def lastK (b:List (L × L)):L:=(b.getLast?.map (·.1)).getD []
def outB (b:List (L × L)):L:=(foldB b).out
def outs (bls:List (List (L × L))):L:=(bls.map outB).flatten
def ixOf:Nat→List (List (L × L))→List (L × L)
 | _,[]=>[]
 | a,b::r=>(lastK b,varL [a,(outB b).length])::ixOf (a+(outB b).length) r
theorem outs_snoc (bls:List (List (L × L)))(b:List (L × L)):outs (bls++[b])=outs bls++outB b:=by simp[outs]
theorem outs_cons (bls:List (List (L × L)))(b:List (L × L)):outs (b::bls)=outB b++outs bls:=by simp[outs]
theorem ixOf_snoc:∀(bls:List (List (L × L))) (a:Nat) (b:List (L × L)),ixOf a (bls++[b])=ixOf a bls++[(lastK b,varL [a+(outs bls).length,(outB b).length])]
 | [],a,b=>by simp[ixOf,outs]
 | c::r,a,b=>by
  simp only[List.cons_append,ixOf];rw[ixOf_snoc r,outs_cons,List.length_append,Nat.add_assoc]
theorem ixOf_len:∀(bls:List (List (L × L))) (a:Nat),(ixOf a bls).length=bls.length
 | [],_=>rfl
 | c::r,a=>by simp only[ixOf,List.length_cons];rw[ixOf_len r]
theorem lastK_snoc (b:List (L × L))(x:L × L):lastK (b++[x])=x.1:=by simp[lastK]
theorem lastK_app (a:List (L × L)){b:List (L × L)}(h:b≠[]):lastK (a++b)=lastK b:=by
 obtain⟨c,x,rfl⟩:∃c x,b=c++[x]:=⟨b.dropLast,b.getLast h,(List.dropLast_concat_getLast h).symm⟩;rw[←List.append_assoc,lastK_snoc,lastK_snoc]
theorem lastK_mem {b:List (L × L)}(h:b≠[]):∃x∈b,x.1=lastK b:=by
 obtain⟨c,x,rfl⟩:∃c x,b=c++[x]:=⟨b.dropLast,b.getLast h,(List.dropLast_concat_getLast h).symm⟩;exact⟨x,by simp,(lastK_snoc c x).symm⟩
theorem foldB_lastK (es:List (L × L)):(foldB es).last=lastK es:=by
 induction es using snocRec with
 | nil=>rfl
 | snoc es e ih=>rw[foldB_snoc,lastK_snoc];rfl
theorem foldB_starts_le (es:List (L × L)):∀n∈(foldB es).starts,n≤(foldB es).b.length:=by
 induction es using snocRec with
 | nil=>intro n h;simp[foldB,BB.new] at h
 | snoc es e ih =>
  rw[foldB_snoc];intro n h;unfold BB.put at h ⊢;simp only[List.length_append] at h ⊢
  split at h
  ·rcases List.mem_append.1 h with h | h
   ·have:=ih n h;omega
   ·simp at h;omega
  ·have:=ih n h;omega
theorem varL_two (a b:Nat):(varL [a,b]).length≤18:=by
 have:=varL_len [a,b]
 simpa using this
theorem rowK_len {e:Ent}(h:e.key.length≤64):(rowK e).length≤139:=by
 have:=internalL_len e.key e.seq;unfold rowK;omega
theorem rowV_le2 {e:Ent}(h:e.value.length≤512):(rowV e).length≤513:=by
 unfold rowV;simp;omega
def headD (l:List Ent):Nat:=(l.head?.map (·.seq)).getD 0
structure RunI (n:Nat)(lv:Int)(own:List Ent)(s:TB)(out:L)(bls:List (List (L × L)))(cur:List (L × L)):Prop where
 rows:bls.flatten++cur=own.map rowE
 out_:out=outs bls
 parts:s.parts=bls.map outB
 at_:s.at_=out.length
 data:s.data=foldB cur
 vcur:ValidB cur
 csz:(foldB cur).size≤1000
 vbls:∀b∈bls,ValidB b∧b≠[]∧(outB b).length≤1000
 index:s.index=foldB (ixOf 0 bls)
 vix:ValidB (ixOf 0 bls)
 ib:(foldB (ixOf 0 bls)).b.length≤184*bls.length
 last:s.last=lastK (own.map rowE)
 done:s.done=false
 sorted:(own.map rowE).Pairwise fun a b=>lessL a.1 b.1=true
 small:∀e∈own,e.key.length≤64∧e.value.length≤512∧1≤e.seq∧e.seq≤9223372036854775808
 keys:∀e∈own,e.key∈s.keys
 kl:s.keys.length≤own.length
 ks:∀k∈s.keys,k.length≤64
 tn:s.t.n=n
 tl:s.t.level=lv
 tz:s.t.size=0
 count:s.t.count=own.length
 first:s.t.first=(own.head?.map (·.key)).getD []
 tlast:s.t.last=(own.getLast?.map (·.key)).getD []
 least:s.t.least=own.foldl (fun a e=>min a e.seq) (headD own)
 most:s.t.most=own.foldl (fun a e=>max a e.seq) (headD own)
theorem RunI.new (n:Nat)(lv:Int):RunI n lv [] (TB.new n lv) [] [] [] :=
 ⟨rfl,rfl,rfl,rfl,rfl,ValidB.nil,by decide,fun b h=>(nomatch h),rfl,ValidB.nil,by decide,rfl,rfl,.nil,fun e h=>(nomatch h),fun e h=>(nomatch h),Nat.le_refl 0,fun e h=>(nomatch h),rfl,rfl,rfl,rfl,rfl,rfl,rfl,rfl⟩
theorem err_zero {s:TB}{e:Ent}(h:s.err e=0):s.done=false∧e.key.length≤64∧e.value.length≤512∧e.key≠[]∧1≤e.seq∧e.seq≤9223372036854775808∧(0<s.t.count→lessL s.last (rowK e)=true)∧(e.gone=true→e.value=[]):=by
 unfold TB.err at h
 split at h
 ·cases h
 ·rename_i hd
  split at h
  ·cases h
  ·rename_i hl
   split at h
   ·cases h
   ·rename_i hb
    unfold TB.bad at hb;simp only[Bool.or_eq_true,Bool.and_eq_true,decide_eq_true_eq,Bool.not_eq_true',not_or,not_and,decide_eq_false_iff_not] at hb;obtain⟨⟨⟨⟨h1,h2⟩,h3⟩,h4⟩,h5⟩:=hb;refine⟨by simpa using hd,by omega,by omega,h1,by omega,by omega,fun hc=>?_,fun hg=>Classical.byContradiction fun h=>h2 hg h⟩;have:=h5 hc
    simpa using this
theorem RunI.put {n:Nat}{lv:Int}{own:List Ent}{s:TB}{out:L}{bls:List (List (L × L))}{cur:List (L × L)}(h:RunI n lv own s out bls cur)(hs:(foldB cur).size<256){e:Ent}(he:s.err e=0):RunI n lv (own++[e]) (s.put e) out bls (cur++[rowE e]):=by
 obtain⟨e1,e2,e3,e4,e5,e6,e7,e8⟩:=err_zero he;have hk:=rowK_len e2;have hv:=rowV_le2 e3
 have hless:own≠[]→lessL (lastK (own.map rowE)) (rowK e)=true:=fun hn=>by
  rw[←h.last];exact e7 (by rw[h.count];exact List.length_pos_iff.2 hn)
 have herr:(foldB cur).err (rowK e) (rowV e)=0:=by
  unfold BB.err;rw[if_neg (by omega),if_neg];rintro ⟨h1,h2⟩;rw[foldB_count] at h1;have hc:cur≠[]:=List.length_pos_iff.1 h1;rw[foldB_lastK,←lastK_app bls.flatten hc,h.rows] at h2
  have hn:own≠[]:=by
   rintro rfl;have:=h.rows;simp at this;exact hc this.2
  rw[hless hn] at h2;cases h2
 have hdata:(s.put e).data=foldB (cur++[rowE e]):=by
  show s.data.add (rowK e) (rowV e)=_;rw[h.data,foldB_snoc];unfold BB.add;rw[if_pos herr];rfl
 have henc:=BB.enc_len (foldB cur) (rowK e) (rowV e)
 have hsz:(foldB (cur++[rowE e])).size≤1000:=by
  rw[foldB_snoc];unfold BB.size at hs ⊢;unfold BB.put;simp only[List.length_append,rowE];split
  ·simp only[List.length_append,List.length_singleton];omega
  ·omega
 have hpair:(own.map rowE++[rowE e]).Pairwise fun a b=>lessL a.1 b.1=true:=by
  rw[List.pairwise_append];refine⟨h.sorted,List.pairwise_singleton _ _,fun a ha b hb=>?_⟩;simp at hb;subst hb
  have hn:own≠[]:=by rintro rfl;cases ha
  have hm:own.map rowE≠[]:=by simpa using hn
  obtain⟨c,x,hcx⟩:∃c x,own.map rowE=c++[x]:=⟨_,_,(List.dropLast_concat_getLast hm).symm⟩;have hl:=hless hn;have hp:=h.sorted;rw[hcx] at hl hp ha;rw[lastK_snoc] at hl;rw[List.pairwise_append] at hp;rcases List.mem_append.1 ha with ha | ha
  ·exact less_trans (hp.2.2 a ha x (by simp)) hl
  ·simp at ha;rw[ha];exact hl
 have hcnt:(s.put e).t.count=(own++[e]).length:=by
  show s.t.count+1=_
  rw[h.count];simp
 refine⟨?_,h.out_,h.parts,h.at_,hdata,?_,hsz,h.vbls,h.index,h.vix,h.ib,?_,h.done,?_,?_,?_,?_,?_,h.tn,h.tl,h.tz,hcnt,?_,?_,?_,?_⟩
 ·rw[←List.append_assoc,h.rows];simp
 ·exact ValidB.snoc h.vcur herr
 ·show rowK e=_
  rw[List.map_append,List.map_singleton,lastK_snoc];rfl
 ·rw[List.map_append,List.map_singleton];exact hpair
 ·intro x hx;rcases List.mem_append.1 hx with hx | hx
  ·exact h.small x hx
  ·simp at hx;subst hx;exact⟨e2,e3,e5,e6⟩
 ·intro x hx
  show x.key∈(if s.t.last=e.key then s.keys else s.keys++[e.key])
  have hmem:∀y∈own,y.key∈(if s.t.last=e.key then s.keys else s.keys++[e.key]):=fun y hy=>by
   split
   ·exact h.keys y hy
   ·exact List.mem_append_left _ (h.keys y hy)
  rcases List.mem_append.1 hx with hx | hx
  ·exact hmem x hx
  ·simp at hx;subst hx
   by_cases hl:s.t.last=x.key
   ·rw[if_pos hl];rw[h.tlast] at hl;rcases hg:own.getLast? with _ | y
    ·rw[hg] at hl;exact absurd hl.symm e4
    ·rw[hg] at hl;have hy:y∈own:=List.mem_of_getLast? hg;have:y.key=x.key:=hl;rw[←this];exact h.keys y hy
   ·rw[if_neg hl];simp
 ·show (if s.t.last=e.key then s.keys else s.keys++[e.key]).length≤_
  have:=h.kl
  split<;>simp<;>omega
 ·intro k hk2
  have hk3:k∈(if s.t.last=e.key then s.keys else s.keys++[e.key]):=hk2
  split at hk3
  ·exact h.ks k hk3
  ·rcases List.mem_append.1 hk3 with h4 | h4
   ·exact h.ks k h4
   ·simp at h4;rw[h4];exact e2
 ·show (if s.t.count=0 then e.key else s.t.first)=_
  rw[h.count]
  cases own with
  | nil=>rfl
  | cons a l=>rw[if_neg (by simp),h.first];rfl
 ·show e.key=_;simp
 ·show min (if s.t.count=0 then e.seq else s.t.least) e.seq=_
  rw[h.count,List.foldl_append]
  cases own with
  | nil=>rfl
  | cons a l=>rw[if_neg (by simp),h.least];rfl
 ·show max (if s.t.count=0 then e.seq else s.t.most) e.seq=_
  rw[h.count,List.foldl_append]
  cases own with
  | nil=>rfl
  | cons a l=>rw[if_neg (by simp),h.most];rfl
theorem RunI.ends_ {n:Nat}{lv:Int}{own:List Ent}{s:TB}{out:L}{bls:List (List (L × L))}{cur:List (L × L)}(h:RunI n lv own s out bls cur)(hc:cur≠[]):RunI n lv own s.ends (out++s.data.out) (bls++[cur]) []:=by
 have hl:s.last=lastK cur:=by rw[h.last,←h.rows,lastK_app _ hc]
 have hlen:(lastK cur).length≤139:=by
  obtain⟨x,hx,e⟩:=lastK_mem hc
  have hm:x∈own.map rowE:=by rw[←h.rows];exact List.mem_append_right _ hx
  obtain⟨y,hy,rfl⟩:=List.mem_map.1 hm;rw[←e];exact rowK_len (h.small y hy).1
 have hv2:=varL_two (0+(outs bls).length) (outB cur).length
 have herr:(foldB (ixOf 0 bls)).err (lastK cur) (varL [0+(outs bls).length,(outB cur).length])=0:=by
  unfold BB.err;rw[if_neg (by omega),if_neg];rintro ⟨h1,h2⟩;rw[foldB_count,ixOf_len] at h1;have hb:bls≠[]:=List.length_pos_iff.1 h1;obtain⟨c,b,rfl⟩:∃c x,bls=c++[x]:=⟨_,_,(List.dropLast_concat_getLast hb).symm⟩;rw[foldB_lastK,ixOf_snoc,lastK_snoc] at h2;obtain⟨x,hx,ex⟩:=lastK_mem (h.vbls b (by simp)).2.1;obtain⟨y,hy,ey⟩:=lastK_mem hc;have hp:=h.sorted;rw[←h.rows,List.pairwise_append] at hp;have:=hp.2.2 x (by simp;exact .inr hx) y hy;rw[ex,ey] at this;simp only at h2;rw[this] at h2;cases h2
 have hat:s.at_=0+(outs bls).length:=by rw[h.at_,h.out_];omega
 have hindex:s.ends.index=foldB (ixOf 0 (bls++[cur])):=by
  show s.index.add s.last (varL [s.at_,s.data.out.length])=_;rw[h.index,hl,hat,h.data,ixOf_snoc,foldB_snoc];unfold BB.add;rw[if_pos (by exact herr)];rfl
 have hout:s.data.out=outB cur:=by rw[h.data];rfl
 have henc:=BB.enc_len (foldB (ixOf 0 bls)) (lastK cur) (varL [0+(outs bls).length,(outB cur).length])
 refine⟨?_,?_,?_,?_,rfl,ValidB.nil,by decide,?_,hindex,?_,?_,h.last,h.done,h.sorted,h.small,h.keys,h.kl,h.ks,h.tn,h.tl,h.tz,h.count,h.first,h.tlast,h.least,h.most⟩
 ·rw[List.append_nil,←h.rows];simp
 ·rw[outs_snoc,h.out_,hout]
 ·show s.parts++[s.data.out]=_
  rw[h.parts,hout];simp
 ·show s.at_+s.data.out.length=_;rw[h.at_,List.length_append]
 ·intro b hb;rcases List.mem_append.1 hb with hb | hb
  ·exact h.vbls b hb
  ·simp at hb;subst hb;refine⟨h.vcur,hc,?_⟩;have:=h.csz;unfold outB;rw[BB.out_len];exact this
 ·rw[ixOf_snoc];exact ValidB.snoc h.vix herr
 ·have h1:=h.ib;rw[ixOf_snoc,foldB_snoc];unfold BB.put;simp only[List.length_append,List.length_singleton];omega
theorem RunI.step {n:Nat}{lv:Int}{own:List Ent}{s:TB}{out:L}{bls:List (List (L × L))}{cur:List (L × L)}(h:RunI n lv own s out bls cur)(hs:(foldB cur).size<256){e:Ent}(he:s.err e=0) :
  ∃bls' cur',RunI n lv (own++[e]) (s.add e).1 (out++(s.add e).2) bls' cur'∧(foldB cur').size<256:=by
 have hp:=h.put hs he;unfold TB.add;rw[if_pos he]
 by_cases hz:256≤(s.put e).data.size
 ·rw[if_pos hz];exact⟨_,_,hp.ends_ (by simp),by decide⟩
 ·rw[if_neg hz];rw[List.append_nil];exact⟨_,_,hp,by rw[←hp.data];omega⟩
theorem add_err {s:TB}{e:Ent}(he:s.err e≠0):s.add e=(s,[]):=by unfold TB.add;rw[if_neg he]
theorem RunI.blen {n:Nat}{lv:Int}{own:List Ent}{s:TB}{out:L}{bls:List (List (L × L))}{cur:List (L × L)}(h:RunI n lv own s out bls cur):bls.length+cur.length≤own.length∧out.length≤1000*bls.length:=by
 constructor
 ·have h1:=congrArg List.length h.rows;simp only[List.length_append,List.length_map] at h1
  have h2:∀l:List (List (L × L)),(∀b∈l,b≠[])→l.length≤l.flatten.length:=by
   intro l
   induction l with
   | nil=>intro _;simp
   | cons b l ih =>
    intro hb;have h3:=ih (fun c hc=>hb c (List.mem_cons_of_mem _ hc));have h4:0<b.length:=List.length_pos_iff.2 (hb b (List.mem_cons_self ..));simp only[List.flatten_cons,List.length_append,List.length_cons];omega
  have h3:=h2 bls (fun b hb=>(h.vbls b hb).2.1);omega
 ·rw[h.out_]
  have h2:∀l:List (List (L × L)),(∀b∈l,(outB b).length≤1000)→(outs l).length≤1000*l.length:=by
   intro l
   induction l with
   | nil=>intro _;simp[outs]
   | cons b l ih =>
    intro hb;have h3:=ih (fun c hc=>hb c (List.mem_cons_of_mem _ hc));have h4:=hb b (List.mem_cons_self ..);rw[outs_cons];simp only[List.length_append,List.length_cons];omega
  exact h2 bls (fun b hb=>(h.vbls b hb).2.2)
theorem varL_two_eq (a b:Nat):varL [a,b]=varL1 a++varL1 b:=by simp[varL]
theorem readVar_one (n:Nat)(h:n<18446744073709551616):readVar (varL1 n)=some (n,(varL1 n).length):=by
 have:=readVar_var n h []
 simpa using this
theorem blocksT_run:∀(bls:List (List (L × L))) (pre rest:L) (n:Nat),(∀b∈bls,ValidB b∧b.length<4294967296)→pre.length+(outs bls).length≤n→n<18446744073709551616→blocksT (pre++(outs bls++rest)) n (ixOf pre.length bls)=some bls
 | [],pre,rest,n,_,_,_=>rfl
 | b::r,pre,rest,n,hb,hn,hn2=>by
  rw[outs_cons,List.length_append] at hn;have h1:=readVar_var pre.length (by omega) (varL1 (outB b).length);have h2:=readVar_one (outB b).length (by omega);have ih:=blocksT_run r (pre++outB b) rest n (fun c hc=>hb c (List.mem_cons_of_mem _ hc)) (by rw[List.length_append];omega) hn2;rw[List.length_append] at ih
  have e1:pre++(outs (b::r)++rest)=(pre++outB b)++(outs r++rest):=by rw[outs_cons];simp
  have e2:((pre++(outs (b::r)++rest)).drop pre.length).take (outB b).length=outB b:=by
   rw[List.drop_left,outs_cons,List.append_assoc,List.take_left]
  have e3:openB (outB b)=some b:=openB_out (hb b (List.mem_cons_self ..)).1 (hb b (List.mem_cons_self ..)).2;unfold ixOf blocksT;rw[varL_two_eq,h1];simp only[];rw[List.drop_left,h2];simp only[];rw[if_neg (by omega),e2,e3];simp only[];rw[e1,ih];rfl
section
variable {n:Nat}{lv:Int}{own:List Ent}{s:TB}{out:L}{bls:List (List (L × L))}{cur:List (L × L)}
theorem RunI.fin_ (h:RunI n lv own s out bls cur):∃bls',RunI n lv own s.fin (out++s.rest) bls' []:=by
 have hc:s.data.count=cur.length:=by rw[h.data,foldB_count]
 unfold TB.fin TB.rest;rw[hc]
 by_cases h0:0<cur.length
 ·rw[if_pos h0,if_pos h0];exact⟨_,h.ends_ (List.length_pos_iff.1 h0)⟩
 ·rw[if_neg h0,if_neg h0];have:cur=[]:=List.eq_nil_of_length_eq_zero (by omega);subst this;rw[List.append_nil];exact⟨_,h⟩
theorem RunI.index_out (h:RunI n lv own s out bls cur)(hn:own.length≤1000000):s.index.outX=outB (ixOf 0 bls)∧(outB (ixOf 0 bls)).length≤200000000:=by
 have hb:=h.blen.1;have hi:=h.ib;have hs:=foldB_starts_le (ixOf 0 bls);have hst:=foldB_starts (ixOf 0 bls);rw[ixOf_len] at hst;rw[h.index]
 constructor
 ·refine BB.outX_eq (fun m hm=>?_) ?_
  ·have:=hs m hm;omega
  ·rw[foldB_count,ixOf_len];omega
 ·unfold outB;rw[BB.out_len];unfold BB.size;omega
theorem RunI.readT_ (h:RunI n lv own s out bls [])(hn:own.length≤1000000):readT (out++s.tail)=some (filterL s.keys,ixOf 0 bls,bls):=by
 obtain⟨hix,hil⟩:=h.index_out hn;obtain⟨hb,ho⟩:=h.blen;have hkl:=h.kl
 have hfl:(filterL s.keys).length≤2000000:=by rw[filterL_len];unfold filterN;omega
 have hcl:=crcL_lt (s.parts++[s.tail0]).flatten;have hat:=h.at_;have hcnt:=h.count;have hv:=h.vix;have hvb:=h.vbls;have hout:=h.out_;have hrows:=congrArg List.length h.rows;unfold TB.tail
 generalize crcL (s.parts++[s.tail0]).flatten=crc at *
 unfold TB.tail0;rw[hix,hat]
 generalize filterL s.keys=fl at *
 rw[bigX_of (by omega),bigX_of (by omega),bigX_of (by omega)]
 generalize s.t.count=cn at *
 have hbv:∀m,m<4294967296→beV (bigL m 4)=m:=fun m hm=>by
  rw[beV_big];exact Nat.mod_eq_of_lt hm
 have hS:out++(fl++outB (ixOf 0 bls)++bigL out.length 4++bigL (out.length+fl.length) 4++bigL cn 4++bigL crc 4)=(out++fl++outB (ixOf 0 bls))++(bigL out.length 4++(bigL (out.length+fl.length) 4++(bigL cn 4++bigL crc 4))):=by simp
 have hS2:out++(fl++outB (ixOf 0 bls)++bigL out.length 4++bigL (out.length+fl.length) 4++bigL cn 4++bigL crc 4)=(out++fl++outB (ixOf 0 bls)++bigL out.length 4)++(bigL (out.length+fl.length) 4++(bigL cn 4++bigL crc 4)):=by simp
 have hS3:out++(fl++outB (ixOf 0 bls)++bigL out.length 4++bigL (out.length+fl.length) 4++bigL cn 4++bigL crc 4)=(out++fl)++(outB (ixOf 0 bls)++(bigL out.length 4++(bigL (out.length+fl.length) 4++(bigL cn 4++bigL crc 4)))):=by simp
 have hS4:out++(fl++outB (ixOf 0 bls)++bigL out.length 4++bigL (out.length+fl.length) 4++bigL cn 4++bigL crc 4)=out++(fl++(outB (ixOf 0 bls)++(bigL out.length 4++(bigL (out.length+fl.length) 4++(bigL cn 4++bigL crc 4))))):=by simp
 have hlen:(out++(fl++outB (ixOf 0 bls)++bigL out.length 4++bigL (out.length+fl.length) 4++bigL cn 4++bigL crc 4)).length=out.length+fl.length+(outB (ixOf 0 bls)).length+16:=by
  simp only[List.length_append,bigL_len];omega
 have hpre:(out++fl++outB (ixOf 0 bls)).length=out.length+fl.length+(outB (ixOf 0 bls)).length:=by simp only[List.length_append]
 have hpre2:(out++fl++outB (ixOf 0 bls)++bigL out.length 4).length=out.length+fl.length+(outB (ixOf 0 bls)).length+4:=by simp only[List.length_append,bigL_len]
 have q1:beV (((out++(fl++outB (ixOf 0 bls)++bigL out.length 4++bigL (out.length+fl.length) 4++bigL cn 4++bigL crc 4)).drop (out.length+fl.length+(outB (ixOf 0 bls)).length)).take 4)=out.length:=by
  rw[hS,List.drop_left' hpre,List.take_left' (bigL_len _ 4),hbv _ (by omega)]
 have q2:beV (((out++(fl++outB (ixOf 0 bls)++bigL out.length 4++bigL (out.length+fl.length) 4++bigL cn 4++bigL crc 4)).drop (out.length+fl.length+(outB (ixOf 0 bls)).length+4)).take 4)=out.length+fl.length:=by
  rw[hS2,List.drop_left' hpre2,List.take_left' (bigL_len _ 4),hbv _ (by omega)]
 have q3:openB (((out++(fl++outB (ixOf 0 bls)++bigL out.length 4++bigL (out.length+fl.length) 4++bigL cn 4++bigL crc 4)).drop (out.length+fl.length)).take (outB (ixOf 0 bls)).length)=some (ixOf 0 bls):=by
  rw[hS3,List.drop_left' (by simp only[List.length_append]),List.take_left' rfl];exact openB_out hv (by rw[ixOf_len];omega)
 have q4:((out++(fl++outB (ixOf 0 bls)++bigL out.length 4++bigL (out.length+fl.length) 4++bigL cn 4++bigL crc 4)).drop out.length).take fl.length=fl:=by
  rw[hS4,List.drop_left' rfl,List.take_left' rfl]
 have hbl:∀b∈bls,ValidB b∧b.length<4294967296:=fun b hb2=>by
  refine⟨(hvb b hb2).1,?_⟩;have h1:b.length≤bls.flatten.length:=(List.sublist_flatten_of_mem hb2).length_le;simp only[List.length_append,List.length_map,List.length_nil] at hrows;omega
 have q5:blocksT (out++(fl++outB (ixOf 0 bls)++bigL out.length 4++bigL (out.length+fl.length) 4++bigL cn 4++bigL crc 4)) out.length (ixOf 0 bls)=some bls:=by
  have:=blocksT_run bls [] (fl++outB (ixOf 0 bls)++bigL out.length 4++bigL (out.length+fl.length) 4++bigL cn 4++bigL crc 4) out.length hbl (by rw[hout];simp) (by omega);rw[List.nil_append,←hout] at this;exact this
 generalize out++(fl++outB (ixOf 0 bls)++bigL out.length 4++bigL (out.length+fl.length) 4++bigL cn 4++bigL crc 4)=S at *
 generalize (outB (ixOf 0 bls)).length=I at *
 unfold readT;rw[if_neg (by omega),show S.length-16=out.length+fl.length+I from by omega,show S.length-12=out.length+fl.length+I+4 from by omega,q1,q2,if_neg (by omega),show out.length+fl.length+I-(out.length+fl.length)=I from by omega,q3];simp only[];rw[q5];simp only[];rw[show out.length+fl.length-out.length=fl.length from by omega,q4]
end
def runG (es:List Ent)(a:TB × L):TB × L:=es.foldl (fun a e=>((a.1.add e).1,a.2++(a.1.add e).2)) a
def TB.nl (s:TB)(n:Nat)(lv:Int):TB:={ s with t:={ s.t with n:=n,level:=lv } }
theorem nl_add (s:TB)(n:Nat)(lv:Int)(e:Ent):(s.nl n lv).add e=((s.add e).1.nl n lv,(s.add e).2):=by
 have h1:(s.nl n lv).err e=s.err e:=rfl;have h2:(s.nl n lv).put e=(s.put e).nl n lv:=rfl;have h3:((s.put e).nl n lv).data=(s.put e).data:=rfl;have h4:((s.put e).nl n lv).ends=(s.put e).ends.nl n lv:=rfl;unfold TB.add;rw[h1,h2,h3,h4];split
 ·split<;>rfl
 ·rfl
theorem nl_run:∀(es:List Ent) (s:TB) (out:L) (n:Nat) (lv:Int),runG es (s.nl n lv,out)=((runG es (s,out)).1.nl n lv,(runG es (s,out)).2)
 | [],s,out,n,lv=>rfl
 | e::es,s,out,n,lv=>by
  have:=nl_run es (s.add e).1 (out++(s.add e).2) n lv;unfold runG at this ⊢;rw[List.foldl_cons,List.foldl_cons];simp only[nl_add];exact this
theorem nl_outL (s:TB)(n:Nat)(lv:Int):(s.nl n lv).outL=s.outL:=by
 have h1:(s.nl n lv).done=s.done:=rfl
 have h2:(s.nl n lv).t.count=s.t.count:=rfl;have h3:(s.nl n lv).rest=s.rest:=rfl
 have h4:(s.nl n lv).fin=s.fin.nl n lv:=by
  unfold TB.fin;have:(s.nl n lv).data=s.data:=rfl;rw[this]
  split<;>rfl
 unfold TB.outL;rw[h1,h2,h3,h4];rfl
theorem againT_rows:∀(es:List Ent) (a:TB × L),(∀e∈es,e.seq≤18446744073709551615)→againT (es.map rowE) a=some (runG es a)
 | [],a,_=>rfl
 | e::es,a,h=>by
  have ih:=againT_rows es ((a.1.add e).1,a.2++(a.1.add e).2) (fun x hx=>h x (List.mem_cons_of_mem _ hx));simp only[List.map_cons,rowE,againT];rw[entryP_row e (h e (List.mem_cons_self ..))];exact ih
theorem openT_run {n:Nat}{lv:Int}{own:List Ent}{s:TB}{out:L}{bls:List (List (L × L))}{cur:List (L × L)}(h:RunI n lv own s out bls cur)(hr:runG own (TB.new n lv,[])=(s,out))(hne:own≠[])(hn:own.length≤1000000) :
  ∃bls',openT (out++s.outL)=some (filterL s.keys,ixOf 0 bls',bls')∧RunI n lv own s.fin (out++s.rest) bls' []:=by
 obtain⟨bls',h2⟩:=h.fin_;refine⟨bls',?_,h2⟩
 have hkeys:s.fin.keys=s.keys:=by unfold TB.fin;split<;>rfl
 have hrd:=h2.readT_ hn;rw[hkeys] at hrd
 have hol:s.outL=s.rest++s.fin.tail:=by
  unfold TB.outL;rw[if_neg];rintro (h1 | h1)
  ·rw[h.done] at h1;cases h1
  ·rw[h.count] at h1;exact hne (List.eq_nil_of_length_eq_zero h1)
 have hfl:bls'.flatten=own.map rowE:=by have:=h2.rows;rwa [List.append_nil] at this
 have hag:=againT_rows own (TB.new 0 0,[]) (fun e he=>by have:=(h.small e he).2.2.2;omega);have hnl:=nl_run own (TB.new 0 0) [] n lv;have hnew:(TB.new 0 0).nl n lv=TB.new n lv:=rfl;rw[hnew,hr] at hnl
 generalize runG own (TB.new 0 0,[])=r at *
 obtain⟨s0,o0⟩:=r;injection hnl with e1 e2;subst e1 e2;rw[nl_outL] at hol;rw[nl_outL,hol];unfold openT;rw[←List.append_assoc,hrd];simp only[];rw[hfl,hag];simp only[];rw[hol,if_pos (by rw[List.append_assoc])]
end Go.Proofs.YtlpojfgeocpkeaaGreatDoor
