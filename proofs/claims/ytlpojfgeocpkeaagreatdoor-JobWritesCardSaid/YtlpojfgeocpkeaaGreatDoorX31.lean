/- table.read. strings.Builder whose row is known by name (now in kit/SB). table.Table: Get. table.Open. Package table, plain: what the laws build. Package job, plain: lists in order are taken whole by a table's builder; a table's bytes are few. -/
import Derived.Test.YtlpojfgeocpkeaaGreatDoorX30
import Derived.Test.YtlpojfgeocpkeaaGreatDoorX23
import Derived.Test.YtlpojfgeocpkeaaGreatDoorX29
import Derived.Test.YtlpojfgeocpkeaaGreatDoorX15
import Derived.Test.YtlpojfgeocpkeaaGreatDoorX28
namespace Go.Proofs.YtlpojfgeocpkeaaGreatDoor
open Go.RowKit
set_option linter.unusedVariables false
set_option linter.unusedSimpArgs false
theorem ptr_info:(Tryz.prog.info? 133).map (fun i=>(i.zero,i.size,i.bytes))=some (some (.pointer none),1,8):=by kernel_rfl
def TIs (w:World)(o:Option (L × List (L × L) × List (List (L × L))))(e:Ending)(w':World):Prop:=match o with
 | none=>e=.returned (.pointer none)
 | some t=>∃gt,e=.returned (.pointer (some ⟨gt,0,none⟩))∧TTF (fun k=>w.heap.size≤k) w' gt t.1 t.2.1 t.2.2
theorem TIs.none_ {w:World}{o:Option (L × List (L × L) × List (List (L × L)))}{w':World}(h:o=none):TIs w o (.returned (.pointer none)) w':=by subst h;rfl
theorem blocksT_cons {s:L}{n:Nat}{k v:L}{r:List (L × L)}:blocksT s n ((k,v)::r)=match readVar v with
  | none=>none
  | some (p,z)=>match readVar (v.drop z) with
   | none=>none
   | some (q,_)=>if n<p∨n-p<q then none else
    match openB ((s.drop p).take q) with
    | none=>none
    | some b=>(blocksT s n r).map (b::·):=rfl
theorem blocksT_len:∀ {s:L} {n:Nat} {ix:List (L × L)} {bls:List (List (L × L))},blocksT s n ix=some bls→bls.length=ix.length
 | s,n,[],bls,h=>by injection h with h;subst h;rfl
 | s,n,(k,v)::r,bls,h=>by
  rw[blocksT_cons] at h
  split at h
  ·cases h
  ·split at h
   ·cases h
   ·split at h
    ·cases h
    ·split at h
     ·cases h
     ·rename_i b _
      cases hr:blocksT s n r with
      | none=>rw[hr] at h;cases h
      | some bl =>
       rw[hr] at h;injection h with h;subst h;simp[blocksT_len hr]
theorem ext_data (s:ByteArray)(a b:Nat):(s.extract a b).data.toList=(s.data.toList.drop a).take (b-a):=by rw[ext_bs,bs_data]
theorem TIs.some_ {w:World}{o:Option (L × List (L × L) × List (List (L × L)))}{w':World}{f:L}{ix:List (L × L)}{bls:List (List (L × L))}{gt:Nat}(h:o=some (f,ix,bls))(hk:TTF (fun k=>w.heap.size≤k) w' gt f ix bls):TIs w o (.returned (.pointer (some ⟨gt,0,none⟩))) w':=by subst h;exact⟨gt,rfl,hk⟩
def OwnP (w:World)(B:Nat)(v:Value)(l:List Nat):Prop:=w.ownsRow B 133 1 v l.length (l.map fun g=>Value.pointer (some ⟨g,0,none⟩))
theorem OwnP.form {w:World}{B:Nat}{v:Value}{l:List Nat}(h:OwnP w B v l):∃A cap,v=.slice A l.length cap:=by
 rcases h.2 with⟨rfl,e⟩ | ⟨g,cap,cur,rfl,_⟩
 ·exact⟨none,0,by rw[e]⟩
 ·exact⟨_,cap,rfl⟩
theorem OwnP.of_law {w:World}{B n:Nat}{v:Value}{l:List Nat}{m:Nat}(h:w.ownsRow B 133 1 v n ((l.map fun g=>Value.pointer (some ⟨g,0,none⟩))++[.pointer (some ⟨m,0,none⟩)])):OwnP w B v (l++[m]):=by
 have hl:n=(l++[m]).length:=by have:=h.1;simp at this;simp;omega
 subst hl;unfold OwnP;rw[List.map_append];exact h
theorem new_ptr (w:World)(g:Nat)(t:TypeId):Reads (w.alloc (.cells #[.pointer (some ⟨g,0,none⟩)] t)) (w.heap.size+1) 1 (some ⟨w.heap.size,0,none⟩) 1 [.pointer (some ⟨g,0,none⟩)]:=by
 refine⟨rfl,fun _=>⟨_,rfl,by simp,fun j u hu=>?_⟩⟩;rw[add_off,Nat.zero_add,(Blk.new w t #[.pointer (some ⟨g,0,none⟩)]).cell j]
 simpa using hu
theorem app_factsT {wr w2:World}{B gx n l cx:Nat}{Ax:Option Addr}{x0 x1:Value}{xs:List Value}{o:Obj}(hX:Blk wr gx 136 #[x0,x1,.slice Ax n cx])(hI:wr.ownsRow B 133 1 (.slice Ax n cx) l xs)(hg:(wr.alloc o).grownBy w2 (Value.slice Ax n cx).ownBlock) :
  KeptBut wr w2 (fun k=>(Value.slice Ax n cx).ownBlock=some k)∧Blk w2 gx 136 #[x0,x1,.slice Ax n cx]∧w2.cell? ⟨gx,0,none⟩=some x0∧w2.cell? ⟨gx,2,none⟩=some (.slice Ax n cx)∧w2.frozen? ⟨gx,2,none⟩=false∧gx<w2.heap.size:=by
 have hk2:KeptBut wr w2 (fun k=>(Value.slice Ax n cx).ownBlock=some k):=(KeptBut.of_below ((Below.refl _ _).alloc (Nat.le_refl _) _)).then_grown hg (fun k e=>e)
 have hXw:=hX.keptB hk2 (own_blk_ne hI hX (by decide));exact⟨hk2,hXw,hXw.cell 0,hXw.cell 2,hXw.frozen 2,hXw.lt⟩
def RInv (w:World)(l:L)(n:Nat)(f:L)(ix:List (L × L))(gt gi:Nat)(iv:Value)(wr:World):Prop:=∃i bls vs,∃gs:List Nat,i≤ix.length∧iv=.int .i64 (i:Nat)∧blocksT l n ix=(blocksT l n (ix.drop i)).map (bls++·)∧gs.length=i∧bls.length=i∧Blk wr gt 136 #[.string (bs f),.pointer (some ⟨gi,0,none⟩),vs]∧wr.ownsRow w.heap.size 133 1 vs gs.length (gs.map fun g=>Value.pointer (some ⟨g,0,none⟩))∧BkF (fun k=>w.heap.size≤k∧k≠gt∧vs.ownBlock≠some k) wr gi ix∧(∀(j g:Nat) (b:List (L × L)),gs[j]? = some g→bls[j]? = some b→BkF (fun k=>w.heap.size≤k∧k≠gt∧vs.ownBlock≠some k) wr g b)∧w.heap.size≤gt∧Below w.heap.size w wr
set_option maxRecDepth 100000 in
set_option maxHeartbeats 40000000 in
theorem read_any (s:ByteArray)(w:World)(hs:s.size≤1048576) :
  Calls Tryz.prog 85 #[.string s] w fun e w'=>TIs w (readT s.data.toList) e w'∧Below w.heap.size w w':=by
 obtain⟨i0,hi0,hz0,hz1,hz2⟩:=info_parts ptr_info;have hl:=dlen s;have hT:readT s.data.toList=readT s.data.toList:=rfl
 conv at hT=>rhs;unfold readT
 by_cases h16:s.size<16
 ·have h16':((s.size:Nat):Int)-16<0:=by omega
  rw[if_pos (by omega)] at hT;replace hT:=Lib.hid hT;clear hl
  go_enter Tryz.func85,Tryz.ntmps85
  go_wp2_with fail
  go_ret
  exact⟨TIs.none_ hT.out,Below.refl _ _⟩
 ·obtain⟨m,hm⟩:∃m,s.size=m+16:=⟨s.size-16,by omega⟩
  have hm0:¬(m:Int)<0:=by omega
  have hsm:((s.size:Nat):Int)-16=(m:Nat):=by omega
  obtain⟨m4,hm4⟩:∃m4,m4=m+4:=⟨_,rfl⟩
  have hsm4:((m:Nat):Int)+4=((m4:Nat):Int):=by omega
  have hml:((m:Nat):Int)≤s.size:=by omega
  have hml4:((m4:Nat):Int)≤s.size:=by omega
  have hmu:IntKind.u64.wrap ((m:Nat):Int)=(m:Nat):=by rw[IntKind.wrap_u64];omega
  rw[if_neg (by omega),show s.data.toList.length-12=m4 from by omega,show s.data.toList.length-16=m from by omega] at hT
  have hr1:readBig (s.data.toList.drop m) 4=some (beV ((s.data.toList.drop m).take 4)):=by
   unfold readBig;rw[if_neg (by simp;omega)];rfl
  have hr2:readBig (s.data.toList.drop m4) 4=some (beV ((s.data.toList.drop m4).take 4)):=by
   unfold readBig;rw[if_neg (by simp;omega)];rfl
  have hn4:=readBig4_lt hr1;have hq4:=readBig4_lt hr2;have hx1:=fun W=>ReadBig_some (s.extract m s.size) 4 _ W (by unfold maxLen;simp;omega) (by omega) (by omega) (by rw[drop_data];exact hr1);have hx2:=fun W=>ReadBig_some (s.extract m4 s.size) 4 _ W (by unfold maxLen;simp;omega) (by omega) (by omega) (by rw[drop_data];exact hr2)
  generalize beV ((s.data.toList.drop m).take 4)=n at *
  generalize beV ((s.data.toList.drop m4).take 4)=q at *
  replace hx1:=Lib.hid hx1;replace hx2:=Lib.hid hx2;replace hm:=Lib.hid hm;clear hr1 hr2 hl hm4
  by_cases hnq:q<n
  ·have hnq':((q:Nat):Int)<(n:Nat):=by omega
   rw[if_pos (.inl hnq)] at hT;replace hT:=Lib.hid hT
   go_enter Tryz.func85,Tryz.ntmps85
   go_wp2_with fail
   refine (hx1.out _).mono ?_;rintro e w1 ⟨rfl,hb1⟩;go_wp2_with fail
   refine (hx2.out _).mono ?_;rintro e w2 ⟨rfl,hb2⟩;go_wp2_with fail
   go_ret
   exact⟨TIs.none_ hT.out,hb1.trans (hb2.mono hb1.size)⟩
  ·by_cases hqm:m<q
   ·have hnq':¬((q:Nat):Int)<(n:Nat):=by omega
    have hqm':((m:Nat):Int)<(q:Nat):=by omega
    rw[if_pos (.inr hqm)] at hT;replace hT:=Lib.hid hT
    go_enter Tryz.func85,Tryz.ntmps85
    go_wp2_with fail
    refine (hx1.out _).mono ?_;rintro e w1 ⟨rfl,hb1⟩;go_wp2_with fail
    refine (hx2.out _).mono ?_;rintro e w2 ⟨rfl,hb2⟩;go_wp2_with fail
    go_ret
    exact⟨TIs.none_ hT.out,hb1.trans (hb2.mono hb1.size)⟩
   ·have hnq':¬((q:Nat):Int)<(n:Nat):=by omega
    have hqm':¬((m:Nat):Int)<(q:Nat):=by omega
    have hnq2:((n:Nat):Int)≤(q:Nat):=by omega
    have hqm2:((q:Nat):Int)≤(m:Nat):=by omega
    have hql:((q:Nat):Int)≤s.size:=by omega
    rw[if_neg (by omega)] at hT;have hop:=fun W=>Open_any (s.extract q m) W (by simp;omega);rw[ext_data] at hop
    cases ho:openB ((s.data.toList.drop q).take (m-q)) with
    | none =>
     rw[ho] at hop hT;have hT2:readT s.data.toList=none:=hT;clear hT;replace hT2:=Lib.hid hT2;replace hop:=Lib.hid hop
     go_enter Tryz.func85,Tryz.ntmps85
     go_wp2_with fail
     refine (hx1.out _).mono ?_;rintro e w1 ⟨rfl,hb1⟩;go_wp2_with fail
     refine (hx2.out _).mono ?_;rintro e w2 ⟨rfl,hb2⟩;have hb12:=hb1.trans (hb2.mono hb1.size);go_wp2_with fail
     refine (hop.out _).mono ?_;rintro e w3 ⟨rfl,hb3⟩;go_wp2_with fail
     go_ret
     exact⟨TIs.none_ hT2.out,hb12.trans (hb3.mono hb12.size)⟩
    | some ix =>
     rw[ho] at hop hT
     have hT2:readT s.data.toList=match blocksT s.data.toList n ix with
      | none=>none
      | some bls=>some ((s.data.toList.drop n).take (q-n),ix,bls):=hT
     clear hT ho;replace hT2:=Lib.hid hT2;replace hop:=Lib.hid hop
     go_enter Tryz.func85,Tryz.ntmps85
     go_wp2_with fail
     refine (hx1.out _).mono ?_;rintro e w1 ⟨rfl,hb1⟩;go_wp2_with fail
     refine (hx2.out _).mono ?_;rintro e w2 ⟨rfl,hb2⟩;have hb12:=hb1.trans (hb2.mono hb1.size);go_wp2_with fail
     refine (hop.out _).mono ?_;rintro e w3 ⟨⟨gi,rfl,hgi,hBi⟩,hb3⟩;have hb13:=hb12.trans (hb3.mono hb12.size);have hgil:=hBi.at_.lt;have hz12:=hb12.size;have hz3:=hb3.size
     have hixl:ix.length≤1048576:=by obtain⟨_,_,_,_,h3,_⟩:=hBi;exact h3.2.1
     have hfx:s.extract n q=bs ((s.data.toList.drop n).take (q-n)):=ext_bs s n q
     generalize (s.data.toList.drop n).take (q-n)=f at *
     have ha:Below w3.heap.size w3 (w3.alloc (.cells #[.string (bs f),.pointer (some ⟨gi,0,none⟩),.slice none 0 0] 136)):=(Below.refl _ _).alloc (Nat.le_refl _) _;have hX0:Blk (w3.alloc (.cells #[.string (bs f),.pointer (some ⟨gi,0,none⟩),.slice none 0 0] 136)) w3.heap.size 136 #[.string (bs f),.pointer (some ⟨gi,0,none⟩),.slice none 0 0]:=Blk.new _ _ _;have hlen:=Lib.hid (Len_any (hBi.at_.below ha));go_wp2_with fail
     refine hlen.out.mono ?_;rintro e w4 ⟨rfl,hb4⟩;have hX4:=hX0.below hb4 hX0.lt
     have hB4:BkF (fun k=>w.heap.size≤k∧k≠w3.heap.size∧(Value.slice none 0 0).ownBlock≠some k) w4 gi ix:=by
      have h1:BkF (fun k=>w.heap.size≤k∧k≠w3.heap.size∧(Value.slice none 0 0).ownBlock≠some k) w3 gi ix:=hBi.mono (fun k hk hq=>⟨by omega,by omega,by simp[Value.ownBlock]⟩);exact (h1.kept (KeptBut.of_below (S:=fun _=>False) ha) (fun _ _ h=>h)).kept (KeptBut.of_below (S:=fun _=>False) hb4) (fun _ _ h=>h)
     have hb14:=(hb13.trans (ha.mono hb13.size)).trans (hb4.mono (Nat.le_trans hb13.size ha.size));clear hlen hX0 ha hb1 hb2 hb3 hb12 hb4 hBi hop hx1 hx2 hgil hz12 hz3;replace hfx:=Lib.hid hfx;have hgt:w.heap.size≤w3.heap.size:=hb13.size
     generalize w3.heap.size=gt at *
     clear hb13
     have hnm:((n:Nat):Int)≤(m:Nat):=by omega
     go_wp2_with fail
     go_loopw [71] (fun iv wr=>RInv w s.data.toList n f ix gt gi iv wr) (fun iv _=>ix.length-(intOf iv).toNat)
     case atStart =>
      refine⟨0,[],.slice none 0 0,[],Nat.zero_le _,rfl,?_,rfl,rfl,hX4,World.ownsRow_nil _ _ _ 1,hB4,fun j g b hg=>(by simp at hg),hgt,hb14⟩;rw[List.drop_zero]
      cases blocksT s.data.toList n ix<;>rfl
     case round =>
      obtain⟨i,bls,vs,gs,hi,rfl,hbl,hgs,hbs,hX,hO,hBi,hBs,hgw,hbr⟩:=hrel;have hzr:=hbr.size;have hbl':=hbl;have hxl:=hX.lt
      obtain⟨Ax,cx,rfl⟩:∃A cap,vs=.slice A gs.length cap:=by
       rcases hO.2 with⟨rfl,e⟩ | ⟨g,cap,cur,rfl,_⟩
       ·exact⟨none,0,by rw[e]⟩
       ·exact⟨_,cap,rfl⟩
      by_cases hlt:i<ix.length
      ·have hlt':(i:Int)<ix.length:=by omega
       obtain⟨kx,vx,hix⟩:∃k v,ix[i]? = some (k,v):=⟨ix[i].1,ix[i].2,List.getElem?_eq_getElem hlt⟩
       have hdr:ix.drop i=(kx,vx)::ix.drop (i+1):=by
        rw[List.drop_eq_getElem_cons hlt];rw[List.getElem?_eq_getElem hlt] at hix;injection hix with hix;rw[hix]
       rw[hdr,blocksT_cons] at hbl
       have hvlen:vx.length≤1024:=by
        obtain⟨_,_,_,_,hv3,_⟩:=hBi;exact (err_len (hv3.1 _ _ _ hix)).2
       have hat:=Lib.hid (At_some hBi.at_ i kx vx hix);replace hdr:=Lib.hid hdr;replace hix:=Lib.hid hix
       cases hrv:readVar vx with
       | none =>
        rw[hrv] at hbl
        have hR:readT s.data.toList=none:=by
         have e:blocksT s.data.toList n ix=none:=hbl;rw[hT2.out,e]
        have hq1:=Lib.hid fun W=>ReadVar_none (bs vx) W (by unfold maxLen;rw[bs_size];omega) (by rw[bs_data];exact hrv)
        have hvs:(0:Int)≤((bs vx).size:Nat):=by omega
        replace hbl:=Lib.hid hbl;replace hbl':=Lib.hid hbl';replace hrv:=Lib.hid hrv;clear hBi hBs hO;go_wp2_with fail
        refine hat.out.mono ?_;rintro e w5 ⟨rfl,hb5⟩;unfold AtV;go_wp2_with fail
        refine (hq1.out _).mono ?_;rintro e w6 ⟨rfl,hb6⟩;go_wp2_with fail
        refine (hq1.out _).mono ?_;rintro e w7 ⟨rfl,hb7⟩;go_wp2_with fail
        go_ret
        exact⟨TIs.none_ hR,((hbr.trans (hb5.mono hbr.size)).trans (hb6.mono (by have:=hb5.size;omega))).trans (hb7.mono (by have:=hb5.size;have:=hb6.size;omega))⟩
       | some pz =>
        obtain⟨p,z⟩:=pz;rw[hrv] at hbl
        replace hbl:blocksT s.data.toList n ix=(match readVar (vx.drop z) with
         | none=>none
         | some (q,_)=>if n<p∨n-p<q then none else
          match openB ((s.data.toList.drop p).take q) with
          | none=>none
          | some b=>(blocksT s.data.toList n (ix.drop (i+1))).map (b::·)).map (bls++·):=hbl
        obtain⟨z1,z2,p64⟩:=readVar_le hrv;have hq1:=Lib.hid fun W=>ReadVar_some (bs vx) p z W (by unfold maxLen;rw[bs_size];omega) (by rw[bs_data];exact hrv)
        have hvs:((z:Nat):Int)≤((bs vx).size:Nat):=by rw[bs_size];omega
        replace hrv:=Lib.hid hrv
        cases hrq:readVar (vx.drop z) with
        | none =>
         rw[hrq] at hbl
         have hR:readT s.data.toList=none:=by
          have e:blocksT s.data.toList n ix=none:=hbl;rw[hT2.out,e]
         have hq2:=Lib.hid fun W=>ReadVar_none ((bs vx).extract z (bs vx).size) W (by unfold maxLen;simp;rw[bs_size];omega) (by rw[drop_data,bs_data];exact hrq);replace hbl:=Lib.hid hbl;replace hbl':=Lib.hid hbl';replace hrq:=Lib.hid hrq;clear hBi hBs hO;go_wp2_with fail
         refine hat.out.mono ?_;rintro e w5 ⟨rfl,hb5⟩;unfold AtV;go_wp2_with fail
         refine (hq1.out _).mono ?_;rintro e w6 ⟨rfl,hb6⟩;go_wp2_with fail
         refine (hq2.out _).mono ?_;rintro e w7 ⟨rfl,hb7⟩;go_wp2_with fail
         go_ret
         exact⟨TIs.none_ hR,((hbr.trans (hb5.mono hbr.size)).trans (hb6.mono (by have:=hb5.size;omega))).trans (hb7.mono (by have:=hb5.size;have:=hb6.size;omega))⟩
        | some qz =>
         obtain⟨q2,zz⟩:=qz;rw[hrq] at hbl
         replace hbl:blocksT s.data.toList n ix=(if n<p∨n-p<q2 then none else
          match openB ((s.data.toList.drop p).take q2) with
          | none=>none
          | some b=>(blocksT s.data.toList n (ix.drop (i+1))).map (b::·)).map (bls++·):=hbl
         obtain⟨_,_,q64⟩:=readVar_le hrq;have hq2:=Lib.hid fun W=>ReadVar_some ((bs vx).extract z (bs vx).size) q2 zz W (by unfold maxLen;simp;rw[bs_size];omega) (by rw[drop_data,bs_data];exact hrq);replace hrq:=Lib.hid hrq
         by_cases hnp:n<p
         ·have hnp':((n:Nat):Int)<(p:Nat):=by omega
          rw[if_pos (.inl hnp)] at hbl
          have hR:readT s.data.toList=none:=by
           have e:blocksT s.data.toList n ix=none:=hbl;rw[hT2.out,e]
          replace hbl:=Lib.hid hbl;replace hbl':=Lib.hid hbl';clear hBi hBs hO;go_wp2_with fail
          refine hat.out.mono ?_;rintro e w5 ⟨rfl,hb5⟩;unfold AtV;go_wp2_with fail
          refine (hq1.out _).mono ?_;rintro e w6 ⟨rfl,hb6⟩;go_wp2_with fail
          refine (hq2.out _).mono ?_;rintro e w7 ⟨rfl,hb7⟩;go_wp2_with fail
          go_ret
          exact⟨TIs.none_ hR,((hbr.trans (hb5.mono hbr.size)).trans (hb6.mono (by have:=hb5.size;omega))).trans (hb7.mono (by have:=hb5.size;have:=hb6.size;omega))⟩
         ·have hnp':¬((n:Nat):Int)<(p:Nat):=by omega
          obtain⟨d,hd⟩:∃d,n=p+d:=⟨n-p,by omega⟩
          have hwd:IntKind.u64.wrap (((n:Nat):Int)-((p:Nat):Int))=((d:Nat):Int):=by rw[IntKind.wrap_u64];omega
          have hdn:n-p=d:=by omega
          rw[hdn] at hbl
          by_cases hdq:d<q2
          ·have hdq':((d:Nat):Int)<(q2:Nat):=by omega
           rw[if_pos (.inr hdq)] at hbl
           have hR:readT s.data.toList=none:=by
            have e:blocksT s.data.toList n ix=none:=hbl;rw[hT2.out,e]
           replace hbl:=Lib.hid hbl;replace hbl':=Lib.hid hbl';replace hd:=Lib.hid hd;replace hdn:=Lib.hid hdn;clear hBi hBs hO;go_wp2_with fail
           refine hat.out.mono ?_;rintro e w5 ⟨rfl,hb5⟩;unfold AtV;go_wp2_with fail
           refine (hq1.out _).mono ?_;rintro e w6 ⟨rfl,hb6⟩;go_wp2_with fail
           refine (hq2.out _).mono ?_;rintro e w7 ⟨rfl,hb7⟩;go_wp2_with fail
           go_ret
           exact⟨TIs.none_ hR,((hbr.trans (hb5.mono hbr.size)).trans (hb6.mono (by have:=hb5.size;omega))).trans (hb7.mono (by have:=hb5.size;have:=hb6.size;omega))⟩
          ·have hdq':¬((d:Nat):Int)<(q2:Nat):=by omega
           rw[if_neg (by omega)] at hbl;obtain⟨pq,hpq⟩:∃pq,pq=p+q2:=⟨_,rfl⟩
           have hwp:IntKind.u64.wrap (((p:Nat):Int)+((q2:Nat):Int))=((pq:Nat):Int):=by rw[IntKind.wrap_u64];omega
           have hs1:((p:Nat):Int)≤(pq:Nat):=by omega
           have hs2:((pq:Nat):Int)≤s.size:=by omega
           have hop2:=fun W=>Open_any (s.extract p pq) W (by simp;omega);rw[ext_data,show pq-p=q2 from by omega] at hop2;replace hd:=Lib.hid hd;replace hdn:=Lib.hid hdn;replace hpq:=Lib.hid hpq
           cases hob:openB ((s.data.toList.drop p).take q2) with
           | none =>
            rw[hob] at hbl hop2
            have hR:readT s.data.toList=none:=by
             have e:blocksT s.data.toList n ix=none:=hbl;rw[hT2.out,e]
            replace hbl:=Lib.hid hbl;replace hbl':=Lib.hid hbl';replace hop2:=Lib.hid hop2;replace hob:=Lib.hid hob;clear hBi hBs hO;go_wp2_with fail
            refine hat.out.mono ?_;rintro e w5 ⟨rfl,hb5⟩;unfold AtV;go_wp2_with fail
            refine (hq1.out _).mono ?_;rintro e w6 ⟨rfl,hb6⟩;go_wp2_with fail
            refine (hq2.out _).mono ?_;rintro e w7 ⟨rfl,hb7⟩;have hb57:=((hbr.trans (hb5.mono hbr.size)).trans (hb6.mono (by have:=hb5.size;omega))).trans (hb7.mono (by have:=hb5.size;have:=hb6.size;omega));go_wp2_with fail
            refine (hop2.out _).mono ?_;rintro e w8 ⟨rfl,hb8⟩;go_wp2_with fail
            go_ret
            exact⟨TIs.none_ hR,hb57.trans (hb8.mono hb57.size)⟩
           | some es =>
            rw[hob] at hbl hop2;replace hbl:blocksT s.data.toList n ix=((blocksT s.data.toList n (ix.drop (i+1))).map (es::·)).map (bls++·):=hbl
            replace hbl:blocksT s.data.toList n ix=(blocksT s.data.toList n (ix.drop (i+1))).map ((bls++[es])++·):=by
             rw[hbl]
             cases blocksT s.data.toList n (ix.drop (i+1))<;>simp
            replace hbl:=Lib.hid hbl;replace hbl':=Lib.hid hbl';replace hop2:=Lib.hid hop2;replace hob:=Lib.hid hob;have hBi':=Lib.hid hBi;have hBs':=Lib.hid hBs;have hO':=Lib.hid hO
            have hgl:gs.length≤1048576:=by
             have h9:ix.length≤1048576:=by
              obtain⟨_,_,_,_,h3,_⟩:=hBi'.out;exact h3.2.1
             omega
            replace hgs:=Lib.hid hgs;replace hbs:=Lib.hid hbs;clear hBi hBs hO;go_wp2_with fail
            refine hat.out.mono ?_;rintro e w5 ⟨rfl,hb5⟩;unfold AtV;go_wp2_with fail
            refine (hq1.out _).mono ?_;rintro e w6 ⟨rfl,hb6⟩;go_wp2_with fail
            refine (hq2.out _).mono ?_;rintro e w7 ⟨rfl,hb7⟩;have hr57:=(hb5.trans (hb6.mono hb5.size)).trans (hb7.mono (by have:=hb5.size;have:=hb6.size;omega));go_wp2_with fail
            refine (hop2.out _).mono ?_;rintro e w8 ⟨⟨gx,rfl,hgx,hBx⟩,hb8⟩;have hr58:=hr57.trans (hb8.mono hr57.size);have hb08:=hbr.trans (hr58.mono hbr.size);have hX8:=hX.below hr58 hX.lt;have hO8:w8.ownsRow w.heap.size 133 1 (.slice Ax gs.length cx) gs.length (gs.map fun g=>Value.pointer (some ⟨g,0,none⟩)):=own_block hO'.out (fun k hk=>hr58.block k (own_lt hO'.out k hk).2);have hBi8:=hBi'.out.kept (KeptBut.of_below (S:=fun _=>False) hr58) (fun _ _ h=>h);have hBs8:∀(j g:Nat) (b:List (L × L)),gs[j]? = some g→bls[j]? = some b→BkF (fun k=>w.heap.size≤k∧k≠gt∧(Value.slice Ax gs.length cx).ownBlock≠some k) w8 g b:=fun j g b h1 h2=>(hBs'.out j g b h1 h2).kept (KeptBut.of_below (S:=fun _=>False) hr58) (fun _ _ h=>h)
            have hBx8:BkF (fun k=>w.heap.size≤k∧k≠gt∧(Value.slice Ax gs.length cx).ownBlock≠some k) w8 gx es:=hBx.mono (fun k hk hq=>by
             have h7:=hr57.size
             exact⟨by omega,by omega,fun e=>by have:=(own_lt hO'.out k e).2;omega⟩)
            have hz08:=hb08.size;have x2:w8.cell? ⟨gt,2,none⟩=some (.slice Ax gs.length cx):=hX8.cell 2;have hownx:=World.ownsRow.alloc hO8 (.cells #[.pointer (some ⟨gx,0,none⟩)] 133);have hrd2:=new_ptr w8 gx 133
            have hone:∀u∈[Value.pointer (some ⟨gx,0,none⟩)],u.oneCell'=true:=by
             intro u hu;simp at hu;subst hu;rfl
            have hBw:w.heap.size≤(w8.alloc (.cells #[.pointer (some ⟨gx,0,none⟩)] 133)).heap.size:=by rw[World.size_alloc];omega
            have hxl8:=hX8.lt;replace hone:=Lib.hid hone;clear hBx hBi' hBs' hO' hX hb5 hb6 hb7 hb8 hr57 hr58 hbr
            go_wp2_with (at_builtin;refine wpList_append_any _ rfl (.tmp 129) (.tmp 131) 134 rfl w.heap.size 133 i0 (.pointer none) 1 8 Tryz.underlying134 hi0 hz0 hz1 hz2 rfl (by omega) (.slice Ax gs.length cx) gs.length (gs.map fun g=>Value.pointer (some ⟨g,0,none⟩)) rfl hownx (w8.heap.size+1) (some ⟨w8.heap.size,0,none⟩) 1 1 [.pointer (some ⟨gx,0,none⟩)] rfl hrd2 hone.out (by unfold maxLen;omega) (by omega) hBw ?_;intro v2 w2 hown2 hgr2 hat2;have ho2:=OwnP.of_law hown2;obtain⟨A2,c2,e2⟩:=ho2.form;rw[List.length_append,List.length_singleton] at e2;subst e2;obtain⟨hk2,hXw,y0,y1,y2,yl⟩:=app_factsT hX8 hO8 hgr2)
            replace hgs:=hgs.out;replace hbs:=hbs.out;have hz2':=hk2.size
            have hk3:KeptBut w8 (w2.setCell ⟨gt,2,none⟩ (.slice A2 (gs.length+1) c2)) (fun k=>k=gt∨(Value.slice Ax gs.length cx).ownBlock=some k):=(hk2.mono (fun k _ e=>.inr e)).then_set (.inl rfl)
            have hO2:OwnP (w2.setCell ⟨gt,2,none⟩ (.slice A2 (gs.length+1) c2)) w.heap.size (.slice A2 (gs.length+1) c2) (gs++[gx]):=own_set ho2 hXw (by decide);have hX2:Blk (w2.setCell ⟨gt,2,none⟩ (.slice A2 (gs.length+1) c2)) gt 136 #[.string (bs f),.pointer (some ⟨gi,0,none⟩),.slice A2 (gs.length+1) c2]:=hXw.set_ 2 _
            have hup:∀ {g:Nat} {b:List (L × L)},BkF (fun k=>w.heap.size≤k∧k≠gt∧(Value.slice Ax gs.length cx).ownBlock≠some k) w8 g b→BkF (fun k=>w.heap.size≤k∧k≠gt∧(Value.slice A2 (gs.length+1) c2).ownBlock≠some k) (w2.setCell ⟨gt,2,none⟩ (.slice A2 (gs.length+1) c2)) g b:=by
             intro g b hgb
             have h1:BkF (fun k=>(w.heap.size≤k∧k≠gt∧(Value.slice Ax gs.length cx).ownBlock≠some k)∧(Value.slice A2 (gs.length+1) c2).ownBlock≠some k) w8 g b:=hgb.mono (fun k hk hq=>⟨hq,fun e=>by
              rcases hat2 with e2 | e2
              ·exact hq.2.2 (by rw[←e2];exact e)
              ·have e3:=Option.some.inj (e.symm.trans e2);have e5:(w8.alloc (Obj.cells #[Value.pointer (some ⟨gx,0,none⟩)] 133)).heap.size=w8.heap.size+1:=World.size_alloc _ _;rw[e5] at e3
               omega⟩)
             exact (h1.kept hk3 (fun k hq e=>e.elim hq.1.2.1 hq.1.2.2)).mono (fun k _ hq=>⟨hq.1.1,hq.1.2.1,hq.2⟩)
            have hb2:=hk3.below_of hb08 (fun k e=>by
             rcases e with e | e
             ·omega
             ·exact (own_lt hO8 k e).1)
            refine⟨⟨i+1,bls++[es],.slice A2 (gs.length+1) c2,gs++[gx],by omega,by go_num,hbl.out,by simp[hgs],by simp[hbs],hX2,hO2,hup hBi8,fun j g b hg hb=>?_,hgw,hb2⟩,by first | omega | (simp only[intOf];omega)⟩
            rcases Nat.lt_or_ge j i with hj | hj
            ·rw[List.getElem?_append_left (by omega)] at hg hb;exact hup (hBs8 j g b hg hb)
            ·rw[List.getElem?_append_right (by omega)] at hg hb;rw[hgs] at hg;rw[hbs] at hb;rcases hji:j-i with _ | x
             ·rw[hji] at hg hb;simp at hg hb;subst hg hb;exact hup hBx8
             ·rw[hji] at hg;simp at hg
      ·obtain rfl:i=ix.length:=by omega
       have hlt':¬((ix.length:Nat):Int)<(ix.length:Nat):=by omega
       have hfin:blocksT s.data.toList n ix=some bls:=by
        rw[hbl,List.drop_length];show some (bls++[])=some bls;rw[List.append_nil]
       have hR:readT s.data.toList=some (f,ix,bls):=by rw[hT2.out,hfin]
       replace hR:=Lib.hid hR;replace hfin:=Lib.hid hfin;replace hbl:=Lib.hid hbl;replace hbl':=Lib.hid hbl';go_wp2_with fail
       go_ret
       refine⟨TIs.some_ hR.out ⟨gi,Ax,cx,gs,hX,hBi.mono (fun k _ hq=>hq.1),Reads.of_own hO,by omega,fun j g b hg hb=>(hBs j g b hg hb).mono (fun k _ hq=>hq.1),hgw,fun ad e hn=>?_⟩,hbr⟩;obtain⟨g',cap',he',_,_⟩:=World.ownsRow.form hO hn;injection he' with he';rw[e] at he';injection he' with he';subst he';exact (own_lt hO g' (by rw[e];rfl)).1
end Go.Proofs.YtlpojfgeocpkeaaGreatDoor
namespace Go.Proofs.YtlpojfgeocpkeaaGreatDoor
open Go.RowKit
set_option linter.unusedVariables false
set_option linter.unusedSimpArgs false
theorem bk_small {w:World}{gx:Nat}{es:List (L × L)}(h:BkAt w gx es){i:Nat}{k v:L}(he:es[i]? = some (k,v)):k.length≤1024∧v.length≤1024:=by
 obtain⟨A,cap,hX,hr,hv,hl1,hl2⟩:=h;exact err_len (hv _ _ _ he)
theorem enc_three (s:BB)(k v:L):3≤(s.enc k v).length:=by
 unfold BB.enc;have h1:=varL1_pos (s.lead k);have h2:=varL1_pos (k.drop (s.lead k)).length;have h3:=varL1_pos v.length;simp only[List.length_append,textL];omega
theorem foldB_three (es:List (L × L)):3*es.length≤(foldB es).b.length:=by
 induction es using snocRec with
 | nil=>simp
 | snoc es e ih =>
  rw[foldB_snoc];unfold BB.put;have:=enc_three (foldB es) e.1 e.2;simp only[List.length_append,List.length_singleton];omega
theorem openB_len {s:L}{es:List (L × L)}(h:openB s=some es):3*es.length≤s.length:=by
 obtain⟨_,h2⟩:=openB_some h;rw[←h2,BB.out_len];have:=foldB_three es;unfold BB.size;omega
theorem blocksT_small:∀ {s:L} {n:Nat} {ix:List (L × L)} {bls:List (List (L × L))},blocksT s n ix=some bls→∀b∈bls,3*b.length≤s.length
 | s,n,[],bls,h,b,hb=>by injection h with h;subst h;cases hb
 | s,n,(k,v)::r,bls,h,b,hb=>by
  rw[blocksT_cons] at h
  split at h
  ·cases h
  ·split at h
   ·cases h
   ·split at h
    ·cases h
    ·split at h
     ·cases h
     ·rename_i b0 hb0
      cases hr:blocksT s n r with
      | none=>rw[hr] at h;cases h
      | some bl =>
       rw[hr] at h;injection h with h;subst h;rcases List.mem_cons.1 hb with rfl | hb
       ·have:=openB_len hb0;rw[List.length_take,List.length_drop] at this;omega
       ·exact blocksT_small hr b hb
theorem readT_small {s:L}{f:L}{ix:List (L × L)}{bls:List (List (L × L))}(h:readT s=some (f,ix,bls)):f.length≤s.length∧3*ix.length≤s.length∧bls.length=ix.length∧∀b∈bls,3*b.length≤s.length:=by
 unfold readT at h
 split at h
 ·cases h
 ·split at h
  ·cases h
  ·split at h
   ·cases h
   ·rename_i ix' hix
    split at h
    ·cases h
    ·rename_i bls' hbl
     injection h with h;injection h with h1 h2;injection h2 with h2 h3;subst h1 h2 h3;refine⟨?_,?_,blocksT_len hbl,blocksT_small hbl⟩
     ·rw[List.length_take,List.length_drop];omega
     ·have:=openB_len hix;rw[List.length_take,List.length_drop] at this;omega
theorem TBIn.cut {w:World}{F:Nat→Prop}{g:Nat}{s:TB}(h:TBIn w F g s):TBIn w (fun k=>F k∧k<w.heap.size) g s:=by
 obtain⟨vb1,vs1,vb2,vs2,vk,vp,hT,hF⟩:=h;refine⟨vb1,vs1,vb2,vs2,vk,vp,hT,fun k hk=>⟨hF k hk,?_⟩⟩;rcases hk with rfl | hk | hk | hk | hk | hk | hk
 ·exact hT.blk.lt
 ·exact (own_lt hT.o1 k hk).2
 ·exact (own_lt hT.p1 k hk).2
 ·exact (own_lt hT.o2 k hk).2
 ·exact (own_lt hT.p2 k hk).2
 ·exact (own_lt hT.ok k hk).2
 ·exact (own_lt hT.op k hk).2
def OSt (w1 wr:World)(gb b:Nat)(tb:TB)(out:L)(N:Nat):Prop:=∃v,∃F:Nat→Prop,∃own bl cu,TBIn wr F gb tb∧SBv wr b v out∧(∀k,F k→w1.heap.size≤k∧k≠b∧v.ownBlock≠some k)∧w1.heap.size≤b∧(∀k,v.ownBlock=some k→w1.heap.size≤k)∧RunI 0 0 own tb out bl cu∧(foldB cu).size<256∧own.length≤N∧Below w1.heap.size w1 wr
theorem OSt.bel {w1 wr:World}{gb b:Nat}{tb:TB}{out:L}{N:Nat}(h:OSt w1 wr gb b tb out N):Below w1.heap.size w1 wr:=by
 obtain⟨v,F,own,bl,cu,h1,h2,h3,h4,h5,h6,h7,h8,h9⟩:=h;exact h9
theorem OSt.below {w1 wr w':World}{gb b:Nat}{tb:TB}{out:L}{N:Nat}(h:OSt w1 wr gb b tb out N)(hb:Below wr.heap.size wr w'):OSt w1 w' gb b tb out N:=by
 obtain⟨v,F,own,bl,cu,h1,h2,h3,h4,h5,h6,h7,h8,h9⟩:=h;exact⟨v,F,own,bl,cu,h1.below hb,h2.kept (KeptBut.of_below (S:=fun _=>False) hb) (fun h=>h) (fun _ _ h=>h),h3,h4,h5,h6,h7,h8,h9.trans (hb.mono h9.size)⟩
theorem OSt.more {w1 wr:World}{gb b:Nat}{tb:TB}{out:L}{N M:Nat}(h:OSt w1 wr gb b tb out N)(hM:N≤M):OSt w1 wr gb b tb out M:=by
 obtain⟨v,F,own,bl,cu,h1,h2,h3,h4,h5,h6,h7,h8,h9⟩:=h;exact⟨v,F,own,bl,cu,h1,h2,h3,h4,h5,h6,h7,by omega,h9⟩
theorem OSt.new {w1 w2:World}{gb:Nat}(hT:TBAt w2 w1.heap.size gb (TB.new 0 0) (.slice none 0 0) (.slice none 0 0) (.slice none 0 0) (.slice none 0 0) (.slice none 0 0) (.slice none 0 0))(hb:Below w1.heap.size w1 w2) :
  OSt w1 (w2.alloc (.cells #[.pointer none,.slice none 0 0] 128)) gb w2.heap.size (TB.new 0 0) [] 0:=by
 have hz:=hb.size
 have h0:TBIn w2 (fun k=>k=gb) gb (TB.new 0 0):=by
  refine⟨_,_,_,_,_,_,⟨Nat.zero_le _,hT.blk,own_base hT.o1,own_base hT.p1,own_base hT.o2,own_base hT.p2,own_base hT.ok,own_base hT.op,hT.nb,hT.ns,hT.np⟩,fun k hk=>?_⟩;rcases hk with hk | hk | hk | hk | hk | hk | hk
  ·exact hk
  all_goals cases hk
 have hlt:=hT.blk.lt;have hge:=hT.hB;refine⟨.slice none 0 0,_,[],[],[],h0.below ((Below.refl _ _).alloc (Nat.le_refl _) _),SBv.new w2,fun k hk=>?_,hz,fun k hk=>(by cases hk),RunI.new 0 0,by decide,Nat.le_refl _,hb.alloc hz _⟩;subst hk;exact⟨hge,by omega,fun e=>by cases e⟩
theorem OSt.add {w1 wr:World}{gb b:Nat}{tb:TB}{out:L}{N:Nat}(h:OSt w1 wr gb b tb out N)(hG:Gl w1)(hN:N≤1073741824)(e:Ent)(hsq:e.seq<18446744073709551616) :
  Calls Tryz.prog 72 #[.pointer (some ⟨gb,0,none⟩),.agg (entC e)] wr fun r w'=>r=.returned (.tuple #[.string (bs (tb.add e).2),.int .i64 (tb.err e:Nat)])∧(∀w'',Below w'.heap.size w' w''→Calls Tryz.prog 82 #[.pointer (some ⟨b,0,none⟩),.string (bs (tb.add e).2)] w'' fun r w3=>r=.returned (.tuple #[.int .i64 (tb.add e).2.length,.nilIface])∧OSt w1 w3 gb b (tb.add e).1 (out++(tb.add e).2) (N+1))∧Below w1.heap.size w1 w':=by
 obtain⟨v,F,own,bl,cu,h1,h2,h3,h4,h5,h6,h7,h8,h9⟩:=h;have hGl:=hG.lt;have hlt:=h2.lt;refine (TAdd_any h1 (hG.below h9 hGl) e hsq (M:=1073741824) (Nat.le_refl _) (h6.tbd (by omega))).mono ?_;rintro r w' ⟨rfl,hT,hk⟩;have hz:=hk.size
 have hrun:∃own' bl' cu',RunI 0 0 own' (tb.add e).1 (out++(tb.add e).2) bl' cu'∧(foldB cu').size<256∧own'.length≤N+1:=by
  by_cases he:tb.err e=0
  ·obtain⟨bl',cu',q1,q2⟩:=h6.step h7 he;exact⟨_,bl',cu',q1,q2,by rw[List.length_append,List.length_singleton];omega⟩
  ·rw[add_err he];exact⟨own,bl,cu,by rw[List.append_nil];exact h6,h7,by omega⟩
 have hb1:Below w1.heap.size w1 w':=hk.below_of h9 (fun k hk=>(h3 k hk).1);have hS':SBv w' b v out:=h2.kept hk (fun q=>(h3 b q).2.1 rfl) (fun k e q=>(h3 k q).2.2 e);have hvl:∀k,v.ownBlock=some k→k<wr.heap.size:=fun k e=>(own_lt h2.2.1 k e).2;refine⟨rfl,fun w'' hb=>?_,hb1⟩;obtain⟨own',bl',cu',q1,q2,q3⟩:=hrun;have hbl:=q1.blen;rw[List.length_append] at hbl;have hz2:=hb.size;refine (write_v (hS'.kept (KeptBut.of_below (S:=fun _=>False) hb) (fun h=>h) (fun _ _ h=>h)) (tb.add e).2 (by omega)).mono ?_;rintro r w3 ⟨rfl,v',hS3,hmv,hk3⟩;have hT2:TBIn w'' (fun k=>Fx F wr w' k∧k<w'.heap.size) gb (tb.add e).1:=hT.cut.below hb
 have hF2:∀k,(Fx F wr w' k∧k<w'.heap.size)→w1.heap.size≤k∧k≠b∧v.ownBlock≠some k:=by
  rintro k ⟨hf | hf,_⟩
  ·exact h3 k hf
  ·have:=h9.size;exact⟨by omega,by omega,fun e=>by have:=hvl k e;omega⟩
 refine⟨rfl,v',_,own',bl',cu',hT2.kept hk3 (fun k hf e=>e.elim (hF2 k hf).2.1 (hF2 k hf).2.2),hS3,fun k hf=>⟨(hF2 k hf).1,(hF2 k hf).2.1,fun e=>?_⟩,h4,fun k e=>?_,q1,q2,q3,?_⟩
 ·rcases hmv k e with e1 | e1
  ·exact (hF2 k hf).2.2 e1
  ·have:=hf.2;omega
 ·rcases hmv k e with e1 | e1
  ·exact h5 k e1
  ·have:=hb1.size;omega
 ·exact hk3.below_of (hb1.trans (hb.mono hb1.size)) (fun k e=>e.elim (fun e=>by omega) (fun e=>h5 k e))
theorem RunI.outL_le {n:Nat}{lv:Int}{own:List Ent}{s:TB}{out:L}{bls:List (List (L × L))}{cur:List (L × L)}(h:RunI n lv own s out bls cur)(hM:own.length≤1073741824):s.outL.length≤1099511627776:=by
 by_cases hne:own=[]
 ·rw[h.outL_nil hne];simp
 ·rw[h.outL_eq hne,List.length_append];obtain⟨bl',h2⟩:=h.fin_;have hb:=h2.tbd hM;have h3:=BB.outX_le s.fin.index;have h4:=hb.ib;have h5:=hb.is_;have h6:=hb.kl
  have h7:s.rest.length≤1000:=by
   unfold TB.rest;split
   ·rw[h.data];have:=h.csz;have:=BB.out_len (foldB cur);omega
   ·simp
  have h8:s.fin.tail.length≤300000000000:=by
   unfold TB.tail TB.tail0;simp only[List.length_append,filterL_len,bigL_len];unfold filterN;have e1:=bigX_le s.fin.at_;have e2:=bigX_le (s.fin.at_+(max (10*s.fin.keys.length) 64+7) / 8);have e3:=bigX_le s.fin.t.count;omega
  omega
theorem OSt.fin {w1 wr:World}{gb b:Nat}{tb:TB}{out:L}{N:Nat}(h:OSt w1 wr gb b tb out N)(hG:Gl w1)(hN:N≤1073741824) :
  Calls Tryz.prog 89 #[.pointer (some ⟨gb,0,none⟩)] wr fun r w'=>(tb.outL.length≤1099511627776∧out.length≤1099511627776)∧(∃x y,r=.returned (.tuple #[.string (bs tb.outL),.agg (tiC x),.int .i64 y]))∧(∀w'',Below w'.heap.size w' w''→Calls Tryz.prog 84 #[.pointer (some ⟨b,0,none⟩)] w'' fun r w3=>r=.returned (.string (bs out))∧Below w1.heap.size w1 w3)∧Below w1.heap.size w1 w':=by
 obtain⟨v,F,own,bl,cu,h1,h2,h3,h4,h5,h6,h7,h8,h9⟩:=h;have hGl:=hG.lt;have hln:tb.outL.length≤1099511627776∧out.length≤1099511627776:=⟨h6.outL_le (by omega),by have:=h6.blen;omega⟩
 have hstr:∀w',SBv w' b v out→Below w1.heap.size w1 w'→∀w'',Below w'.heap.size w' w''→Calls Tryz.prog 84 #[.pointer (some ⟨b,0,none⟩)] w'' fun r w3=>r=.returned (.string (bs out))∧Below w1.heap.size w1 w3:=by
  intro w' hS hb' w'' hb;have hb'':=hb'.trans (hb.mono hb'.size);refine (string_v (hS.kept (KeptBut.of_below (S:=fun _=>False) hb) (fun h=>h) (fun _ _ h=>h)) h4 h5).mono ?_;rintro r w3 ⟨rfl,hb3⟩;exact⟨rfl,hb''.trans hb3⟩
 by_cases hne:own=[]
 ·have hc:tb.t.count=0:=by rw[h6.count,hne];rfl
  obtain⟨vb1,vs1,vb2,vs2,vk,vp,hT,hF⟩:=id h1;refine (Fin_err hT.blk (.inr hc)).mono ?_;rintro r w' ⟨rfl,hb⟩;have hb':=h9.trans (hb.mono h9.size);refine⟨hln,⟨_,_,by rw[h6.outL_nil hne];rfl⟩,hstr w' (h2.kept (KeptBut.of_below (S:=fun _=>False) hb) (fun h=>h) (fun _ _ h=>h)) hb',hb'⟩
 ·refine (Fin_run h1 (hG.below h9 hGl) (fun q=>by have:=(h3 1 q).1;omega) (fun q=>by have:=(h3 4 q).1;omega) h6 hne (by omega)).mono ?_;rintro r w' ⟨rfl,_,hk⟩;have hb':=hk.below_of h9 (fun k hk=>(h3 k hk).1);exact⟨hln,⟨_,_,rfl⟩,hstr w' (h2.kept hk (fun q=>(h3 b q).2.1 rfl) (fun k e q=>(h3 k q).2.2 e)) hb',hb'⟩
end Go.Proofs.YtlpojfgeocpkeaaGreatDoor
namespace Go.Proofs.YtlpojfgeocpkeaaGreatDoor
set_option linter.unusedVariables false
set_option linter.unusedSimpArgs false
def stepX (a:TB × L × List Ent)(e:Ent):TB × L × List Ent:=((a.1.add e).1,a.2.1++(a.1.add e).2,if a.1.err e=0 then a.2.2++[e] else a.2.2)
def runX (n:Nat)(lv:Int)(es:List Ent):TB × L × List Ent:=es.foldl stepX (TB.new n lv,[],[])
theorem runX_snoc (n:Nat)(lv:Int)(es:List Ent)(e:Ent):runX n lv (es++[e])=stepX (runX n lv es) e:=by unfold runX;rw[List.foldl_append];rfl
theorem runG_snoc (es:List Ent)(e:Ent)(a:TB × L):runG (es++[e]) a=(((runG es a).1.add e).1,(runG es a).2++((runG es a).1.add e).2):=by unfold runG;rw[List.foldl_append];rfl
structure RunX (n:Nat)(lv:Int)(es:List Ent)(r:TB × L × List Ent):Prop where
 ex:∃bl cu,RunI n lv r.2.2 r.1 r.2.1 bl cu∧(foldB cu).size<256
 run:runG r.2.2 (TB.new n lv,[])=(r.1,r.2.1)
 len:r.2.2.length≤es.length
 sub:r.2.2.Sublist es
theorem runX_I (n:Nat)(lv:Int)(es:List Ent):RunX n lv es (runX n lv es):=by
 induction es using snocRec with
 | nil=>exact⟨⟨[],[],RunI.new n lv,by decide⟩,rfl,Nat.le_refl _,List.Sublist.refl _⟩
 | snoc es e ih =>
  rw[runX_snoc]
  generalize runX n lv es=r at *
  obtain⟨⟨bl,cu,h1,h2⟩,h3,h4,h5⟩:=ih;unfold stepX
  by_cases he:r.1.err e=0
  ·rw[if_pos he];obtain⟨bl',cu',q1,q2⟩:=h1.step h2 he;refine⟨⟨bl',cu',q1,q2⟩,?_,by simp;omega,h5.append (List.Sublist.refl _)⟩;simp only[runG_snoc,h3]
  ·rw[if_neg he];have ha:=add_err he;refine⟨⟨bl,cu,?_,h2⟩,?_,by rw[List.length_append];show r.2.2.length≤_;omega,h5.trans (List.sublist_append_left _ _)⟩
   ·simp only[ha,List.append_nil];exact h1
   ·simp only[ha,List.append_nil];exact h3
def costR (l:List (L × L)):Nat:=(l.map fun r=>r.1.length+r.2.length+35).sum
theorem costR_app (a b:List (L × L)):costR (a++b)=costR a+costR b:=by unfold costR;rw[List.map_append,List.sum_append]
theorem foldB_cost (es:List (L × L)):(foldB es).size≤costR es+4:=by
 induction es using snocRec with
 | nil=>decide
 | snoc es e ih =>
  rw[foldB_snoc,costR_app]
  have h1:costR [e]=e.1.length+e.2.length+35:=by simp[costR]
  have h2:=BB.enc_len (foldB es) e.1 e.2;unfold BB.put;unfold BB.size at ih ⊢;simp only[List.length_append]
  split<;>(try rw[List.length_append])<;>(try simp only[List.length_singleton])<;>omega
theorem outs_cost:∀bls:List (List (L × L)),(outs bls).length≤costR bls.flatten+4*bls.length
 | []=>by simp[outs]
 | b::r=>by
  have ih:=outs_cost r;have h:=foldB_cost b;rw[←BB.out_len] at h;rw[outs_cons,List.length_append,List.flatten_cons,costR_app,List.length_cons];have e:(outB b).length=(foldB b).out.length:=rfl;omega
def entSz (l:List Ent):Nat:=(l.map fun e=>e.key.length+e.value.length).sum
theorem cost_rows (l:List Ent):costR (l.map rowE)≤2*entSz l+47*l.length:=by
 induction l with
 | nil=>simp[costR,entSz]
 | cons e l ih =>
  have h1:=internalL_len e.key e.seq
  have h2:(rowV e).length=e.value.length+1:=by unfold rowV;simp
  have h3:(rowK e).length=(internalL e.key e.seq).length:=rfl
  unfold costR entSz at *
  simp only[List.map_cons,List.sum_cons,List.length_cons,rowE];omega
theorem fits_parts {e:Ent}(h:fitsE e=true):0<e.key.length∧e.key.length≤64∧e.value.length≤512∧(e.gone=true→e.value=[])∧1≤e.seq∧e.seq≤9223372036854775808:=by
 unfold fitsE at h;simp only[Bool.and_eq_true,decide_eq_true_eq,Bool.or_eq_true,Bool.not_eq_true'] at h;obtain⟨⟨⟨⟨⟨h1,h2⟩,h3⟩,h4⟩,h5⟩,h6⟩:=h;refine⟨h1,h2,h3,fun hg=>?_,h5,h6⟩;rcases h4 with h4 | h4
 ·rw[hg] at h4;cases h4
 ·exact h4
theorem ltE_row {a b:Ent}(ha:a.seq≤18446744073709551615)(hb:b.seq≤18446744073709551615)(h:ltE a b=true):lessL (rowK a) (rowK b)=true:=by
 rw[ltE_def] at h;simp only[Bool.or_eq_true,Bool.and_eq_true,decide_eq_true_eq] at h;unfold rowK;exact (internal_less ha hb).2 h
theorem RunI.takes {n:Nat}{lv:Int}{own:List Ent}{s:TB}{out:L}{bls:List (List (L × L))}{cur:List (L × L)}(h:RunI n lv own s out bls cur){e:Ent}(hf:fitsE e=true)(hl:∀x∈own,ltE x e=true)(hq:∀x∈own,fitsE x=true):s.err e=0:=by
 obtain⟨h1,h2,h3,h4,h5,h6⟩:=fits_parts hf
 have hbad:s.bad e=false:=by
  unfold TB.bad
  have b1:decide (e.key=[])=false:=by simp;intro e0;rw[e0] at h1;simp at h1
  have b2:(e.gone&&!decide (e.value=[]))=false:=by
   cases hg:e.gone with
   | false=>rfl
   | true=>simp[h4 hg]
  have b3:decide (e.seq<1)=false:=by simp;omega
  have b4:decide (9223372036854775808<e.seq)=false:=by simp;omega
  have b5:(decide (0<s.t.count)&&!lessL s.last (rowK e))=false:=by
   by_cases hc:0<s.t.count
   ·have hne:own≠[]:=by
     intro e0;rw[h.count,e0] at hc;simp at hc
    have hmem:=List.getLast_mem hne
    have hlast:s.last=rowK (own.getLast hne):=by
     rw[h.last];unfold lastK;rw[List.getLast?_map,List.getLast?_eq_some_getLast hne];rfl
    rw[hlast,ltE_row (by have:=(fits_parts (hq _ hmem)).2.2.2.2.2;omega) (by omega) (hl _ hmem)];simp
   ·simp[hc]
  rw[b1,b2,b3,b4,b5];rfl
 unfold TB.err
 rw[h.done,hbad]
 rw[if_neg (by decide),if_neg (by omega),if_neg (by decide)]
theorem runX_take {n:Nat}{lv:Int}{l:List Ent}(hs:l.Pairwise fun x y=>ltE x y=true)(hf:∀e∈l,fitsE e=true):∀k,k≤l.length→(runX n lv (l.take k)).2.2=l.take k
 | 0,_=>rfl
 | k+1,hk=>by
  have ih:=runX_take (n:=n) (lv:=lv) hs hf k (by omega)
  have hkl:k<l.length:=by omega
  obtain⟨bl,cu,hI,_⟩:=(runX_I n lv (l.take k)).ex;rw[ih] at hI
  have herr:=hI.takes (hf _ (List.getElem_mem hkl)) (fun x hx=>by
   rw[List.pairwise_iff_getElem] at hs;obtain⟨i,hi,rfl⟩:=List.getElem_of_mem hx
   have hi':i<k:=by rw[List.length_take] at hi;omega
   rw[List.getElem_take]
   exact hs i k (by omega) hkl hi') (fun x hx=>hf x (List.mem_of_mem_take hx))
  rw[List.take_succ_eq_append_getElem hkl,runX_snoc];unfold stepX;simp only;rw[if_pos herr,ih]
theorem runX_err {n:Nat}{lv:Int}{l:List Ent}(hs:l.Pairwise fun x y=>ltE x y=true)(hf:∀e∈l,fitsE e=true){k:Nat}(hkl:k<l.length):(runX n lv (l.take k)).1.err l[k]=0:=by
 have ih:=runX_take (n:=n) (lv:=lv) hs hf k (by omega);obtain⟨bl,cu,hI,_⟩:=(runX_I n lv (l.take k)).ex;rw[ih] at hI
 exact hI.takes (hf _ (List.getElem_mem hkl)) (fun x hx=>by
  rw[List.pairwise_iff_getElem] at hs;obtain⟨i,hi,rfl⟩:=List.getElem_of_mem hx
  have hi':i<k:=by rw[List.length_take] at hi;omega
  rw[List.getElem_take]
  exact hs i k (by omega) hkl hi') (fun x hx=>hf x (List.mem_of_mem_take hx))
theorem RunI.file_cost {n:Nat}{lv:Int}{own:List Ent}{s:TB}{out:L}{bls:List (List (L × L))}{cur:List (L × L)}(h:RunI n lv own s out bls cur)(hn:own.length≤60):(out++s.outL).length≤2*entSz own+60000:=by
 by_cases hne:own=[]
 ·rw[h.outL_nil hne,List.append_nil,h.out_];have h1:=h.blen;rw[hne] at h1;have h2:bls=[]:=List.eq_nil_of_length_eq_zero (by simp at h1;simp[h1]);rw[h2];simp[outs]
 ·rw[h.outL_eq hne];obtain⟨bl',h2⟩:=h.fin_;have hb:=h2.tbd (Nat.le_refl _);have h3:=BB.outX_le s.fin.index;have h4:=h2.ib;have hx:=h2.index;have h5:=hb.is_;have h6:=hb.kl;have h7:=h2.blen;have h8:=outs_cost bl';rw[←h2.out_] at h8
  have h9:bl'.flatten=own.map rowE:=by have:=h2.rows;rwa [List.append_nil] at this
  rw[h9] at h8;have h10:=cost_rows own;rw[←hx] at h4
  have h11:s.fin.tail.length≤s.fin.index.outX.length+200:=by
   unfold TB.tail TB.tail0;simp only[List.length_append,filterL_len,bigL_len];unfold filterN;have e1:=bigX_le s.fin.at_;have e2:=bigX_le (s.fin.at_+(max (10*s.fin.keys.length) 64+7) / 8);have e3:=bigX_le s.fin.t.count;omega
  rw[←List.append_assoc,List.length_append];simp only[List.length_nil] at h7;omega
end Go.Proofs.YtlpojfgeocpkeaaGreatDoor
