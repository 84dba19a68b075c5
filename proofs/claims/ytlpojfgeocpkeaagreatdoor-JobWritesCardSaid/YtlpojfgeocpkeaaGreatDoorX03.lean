/- Contracts: Create, Delete. Contracts: Delete, Rename, Start, Fuse, Read. Contracts: Sync, Read, Used, Append. A range over a map of names: one entry after the other, each once. A text's bytes appended to a row of bytes: where the new row lies. Contracts: Used, Append. Contracts: maps.Clone, New, DirSync. Contracts: DirSync. Rows of bytes: one byte set, the end cut off. What a crash turns of a tail: byte by byte. -/
import Derived.Test.YtlpojfgeocpkeaaGreatDoorX02
import Derived.LoopTactic
import Derived.Test.YtlpojfgeocpkeaaGreatDoorX01
import Derived.Lib.AppendStr
import Derived.Shelf.SlMaps.Clone
import Derived.Laws.BitsAllLaws
namespace Go.Proofs.YtlpojfgeocpkeaaGreatDoor
open Go.RowKit
set_option linter.unusedVariables false
set_option linter.unusedSimpArgs false
theorem mvM_congr {g g':Nat→Nat}{m:NM}(h:∀p∈m,g p.2=g' p.2):mvM g m=mvM g' m:=by
 unfold mvM
 exact List.map_congr_left fun p hp=>by rw[h p hp]
theorem chgV_congr {g g':Nat→Nat}{l:List Chg}(h:∀c∈l,∀i,c.f=some i→g i=g' i):chgV g l=chgV g' l:=by
 unfold chgV;rw[List.flatMap_def,List.flatMap_def,List.map_congr_left fun c hc=>?_]
 have:c.f.map g=c.f.map g':=by
  cases hf:c.f with
  | none=>rfl
  | some i=>simp only[Option.map_some];rw[h c hc i hf]
 rw[this]
section
variable {w w':World}{F F':Nat→Prop}{d:Nat}{L:Lay}{s s':Dsk}
theorem Went.pull {w1:World}(hk:KeptBut w w1 F)(hF:∀k,F' k→F k∨(w.heap.size≤k∧k<w1.heap.size))(h:Went w1 w' F' d s):Went w w' F d s:=by
 obtain⟨h1,L',h2⟩:=h;have hs:=hk.size;have hs':=h1.size;refine⟨hk.trans h1 (fun k hk' e=>(hF k e).elim id (fun e=>by omega)),L',h2.more (fun k e=>?_)⟩;rcases e with e | e
 ·rcases hF k e with e | e
  ·exact .inl e
  ·exact .inr ⟨e.1,by omega⟩
 ·exact .inr ⟨by omega,e.2⟩
theorem DskAt.newFile (h:DskAt w F d L s)(ok:s.Ok) :
  DskAt (w.alloc (.cells #[.slice none 0 0,.int .i64 0] 83)) (fun k=>F k∨k=w.heap.size) d { L with blk:=fun i=>if i=s.files.length then w.heap.size else L.blk i,row:=fun i=>if i=s.files.length then .slice none 0 0 else L.row i } { s with files:=s.files++[⟨[],0⟩] }:=by
 have hA:Below w.heap.size w (w.alloc (.cells #[.slice none 0 0,.int .i64 0] 83)):=(Below.refl _ _).alloc (Nat.le_refl _) _;have h1:=h.below hA;obtain⟨f1,f2,f3,f4,f5⟩:=h.inF;have hlt:∀i,i<s.files.length→¬L.dead i→L.blk i<w.heap.size:=fun i hi hd=>((h.file i _ (List.getElem?_eq_getElem hi) hd).1).lt
 have hnd:¬L.dead s.files.length:=fun e=>by have:=h.live.2.2.2 _ e;omega
 have hne:∀i,i<s.files.length→i≠s.files.length:=fun i hi e=>by omega
 refine⟨h1.box,?_,?_,?_,fun i f hi hd=>?_,⟨.inl f1,.inl f2,.inl f3,fun k e=>.inl (f4 k e),fun i hi hd=>?_⟩,h.ne,fun i j hi hj di dj e=>?_,⟨h.live.1,h.live.2.1,h.live.2.2.1,fun i hi=>by have:=h.live.2.2.2 i hi;simp;omega⟩,fun i j k hi hj di dj e1 e2=>?_⟩
 ·rw[mvM_congr (g':=L.blk) (fun p hp=>by have:=(ok.names p hp).2;simp[hne _ this])];exact h1.names
 ·rw[mvM_congr (g':=L.blk) (fun p hp=>by have:=(ok.last p hp).2;simp[hne _ this])];exact h1.last
 ·rw[chgV_congr (g':=L.blk) (fun c hc i hi=>by have:=(ok.chg c hc).2.2.1 i hi;simp[hne _ this])];exact h1.chg
 ·by_cases e:i=s.files.length
  ·subst e;simp at hi;subst hi
   dsimp only
   rw[if_pos rfl,if_pos rfl];exact⟨Blk.new _ _ _,OwnB.nil _ _⟩
  ·dsimp only
   rw[if_neg e,if_neg e];rw[List.getElem?_append] at hi
   split at hi
   ·exact h1.file i f hi hd
   ·have h2:=(List.getElem?_eq_some_iff.1 hi).1;simp only[List.length_singleton] at h2;omega
 ·by_cases e:i=s.files.length
  ·subst e
   dsimp only
   rw[if_pos rfl,if_pos rfl];exact⟨.inr rfl,fun k hk=>by cases hk⟩
  ·simp only[if_neg e];simp at hi;exact⟨.inl (f5 i (by omega) hd).1,fun k hk=>.inl ((f5 i (by omega) hd).2 k hk)⟩
 ·simp at hi hj
  by_cases e1:i=s.files.length<;>by_cases e2:j=s.files.length
  ·omega
  ·simp only[e1,if_true,if_neg e2] at e;have:=hlt j (by omega) dj;omega
  ·simp only[e2,if_true,if_neg e1] at e;have:=hlt i (by omega) di;omega
  ·simp only[if_neg e1,if_neg e2] at e;exact h.inj i j (by omega) (by omega) di dj e
 ·simp at hi hj
  by_cases g1:i=s.files.length
  ·simp only[g1,if_true] at e1;cases e1
  ·by_cases g2:j=s.files.length
   ·simp only[g2,if_true] at e2;cases e2
   ·simp only[if_neg g1] at e1;simp only[if_neg g2] at e2;exact h.rows i j k (by omega) (by omega) di dj e1 e2
theorem file_off (h:DskAt w F d L s)(n:ByteArray)(hn:n.size≤maxLen)(ho:s.off=true):Calls Tryz.prog 40 #[.pointer (some ⟨d,0,none⟩),.string n] w fun e w'=>e=.returned (.tuple #[.pointer none,.int .i64 7])∧w=w':=by
 have:=file_any h n hn;unfold fileV at this;rw[ho] at this;exact this
theorem file_none (h:DskAt w F d L s)(n:ByteArray)(hn:n.size≤maxLen)(ho:s.off=false)(hg:getM n.data.toList s.names=none):Calls Tryz.prog 40 #[.pointer (some ⟨d,0,none⟩),.string n] w fun e w'=>e=.returned (.tuple #[.pointer none,.int .i64 4])∧w=w':=by
 have:=file_any h n hn;unfold fileV at this;rw[ho,hg] at this;exact this
theorem file_some (h:DskAt w F d L s)(n:ByteArray)(hn:n.size≤maxLen)(ho:s.off=false){i:Nat}(hg:getM n.data.toList s.names=some i):Calls Tryz.prog 40 #[.pointer (some ⟨d,0,none⟩),.string n] w fun e w'=>e=.returned (.tuple #[.pointer (some ⟨L.blk i,0,none⟩),.int .i64 0])∧w=w':=by
 have:=file_any h n hn;unfold fileV at this;rw[ho,hg] at this;exact this
theorem changed_err (s:Dsk)(c:Chg):(((s.changed c).2:Nat):Int)=errB s.burn.off:=by
 unfold Dsk.changed errB
 cases s.burn.off<;>rfl
theorem getM_len {k:List UInt8}{m:NM}{v:Nat}(h:getM k m=some v)(hm:∀p∈m,p.1.length≤24):k.length≤24:=hm _ (getM_mem h)
end
set_option maxRecDepth 100000 in
set_option maxHeartbeats 2000000 in
theorem Create_any {w:World}{F:Nat→Prop}{d:Nat}{L:Lay}{s:Dsk}(h:DskAt w F d L s)(ok:s.Ok)(n:ByteArray)(hn:n.size≤maxLen)(hnl:s.names.length<1073741824)(hl:s.chg.length<1073741824) :
  Calls Tryz.prog 11 #[.pointer (some ⟨d,0,none⟩),.string n] w fun e w'=>e=.returned (.int .i64 ((s.create n.data.toList).2:Nat))∧Went w w' F d (s.create n.data.toList).1:=by
 rcases Bool.eq_false_or_eq_true s.off with ho | ho
 ·have hR:s.create n.data.toList=(s,7):=by unfold Dsk.create;rw[if_pos ho]
  rw[hR];clear hR;have hf:=Lib.hid (file_off h n hn ho);replace ho:=Lib.hid ho;replace hn:=Lib.hid hn
  go_enter Tryz.func11,Tryz.ntmps11
  go_wp2_with fail
  refine hf.out.mono ?_;rintro e w' ⟨rfl,rfl⟩;go_wp2_with fail
  go_ret
  exact⟨rfl,.of (KeptBut.refl _ _) h⟩
 ·cases hg:getM n.data.toList s.names with
  | some i =>
   have hR:s.create n.data.toList=(s,5):=by unfold Dsk.create;rw[if_neg (by rw[ho];decide),hg]
   rw[hR];clear hR;have hf:=Lib.hid (file_some h n hn ho hg);replace ho:=Lib.hid ho;replace hg:=Lib.hid hg;replace hn:=Lib.hid hn
   go_enter Tryz.func11,Tryz.ntmps11
   go_wp2_with fail
   refine hf.out.mono ?_;rintro e w' ⟨rfl,rfl⟩;go_wp2_with fail
   go_ret
   exact⟨rfl,.of (KeptBut.refl _ _) h⟩
  | none =>
   have hf:=Lib.hid (file_none h n hn ho hg);have hr:=Lib.hid (right_any n);replace hn:=Lib.hid hn
   cases hb:rightB n.data.toList with
   | false =>
    have hR:s.create n.data.toList=(s,1):=by unfold Dsk.create;rw[if_neg (by rw[ho];decide),hg];exact if_neg (by rw[hb];decide)
    rw[hR];clear hR;rw[hb] at hr;replace hb:=Lib.hid hb;replace ho:=Lib.hid ho;replace hg:=Lib.hid hg
    go_enter Tryz.func11,Tryz.ntmps11
    go_wp2_with fail
    refine hf.out.mono ?_;rintro e w' ⟨rfl,rfl⟩;go_wp2_with fail
    refine (hr.out _).mono ?_;rintro e w1 ⟨rfl,hb1⟩;go_wp2_with fail
    go_ret
    exact⟨rfl,.of (KeptBut.of_below hb1) (h.below hb1)⟩
   | true =>
    have hR:s.create n.data.toList=({ s with files:=s.files++[⟨[],0⟩] }:Dsk).changed ⟨[],n.data.toList,some s.files.length⟩:=by unfold Dsk.create;rw[if_neg (by rw[ho];decide),hg];exact if_pos hb
    rw[hR,changed_err];clear hR;rw[hb] at hr;have hlen:=rightB_len hb;replace hb:=Lib.hid hb;replace ho:=Lib.hid ho;replace hg:=Lib.hid hg
    go_enter Tryz.func11,Tryz.ntmps11
    go_wp2_with fail
    refine hf.out.mono ?_;rintro e w' ⟨rfl,rfl⟩;go_wp2_with fail
    refine (hr.out _).mono ?_;rintro e w1 ⟨rfl,hb1⟩;have h1:=h.below hb1;have h2:=h1.newFile ok;have hA:Below w1.heap.size w1 (w1.alloc (.cells #[.slice none 0 0,.int .i64 0] 83)):=(Below.refl _ _).alloc (Nat.le_refl _) _
    have hk:=(KeptBut.of_below hb1 (S:=F)).then_below hA
    have hcall:=changed_any h2 ok.newFile ⟨[],n.data.toList,some s.files.length⟩ (by simp) hlen (by simp) (fun i hi e=>by injection hi with hi;subst hi;have:=h1.live.2.2.2 _ e;omega) hnl hl;have hs1:=hb1.size;unfold chgVal at hcall;simp only[Option.map_some,ptrV,if_true,bs_of] at hcall;replace hcall:=Lib.hid hcall;replace hk:=Lib.hid hk;clear h2 h1 hA hlen;go_wp2_with fail
    refine hcall.out.mono ?_;rintro e w3 ⟨rfl,hw⟩;replace hw:=Lib.hid hw;go_wp2_with fail
    go_ret
    exact⟨rfl,hw.out.pull hk.out (fun k (e:F k∨k=w1.heap.size)=>e.elim .inl (fun e=>.inr ⟨by omega,by simp;omega⟩))⟩
set_option maxRecDepth 100000 in
set_option maxHeartbeats 2000000 in
theorem Delete_any {w:World}{F:Nat→Prop}{d:Nat}{L:Lay}{s:Dsk}(h:DskAt w F d L s)(ok:s.Ok)(n:ByteArray)(hn:n.size≤maxLen)(hnl:s.names.length<1073741824)(hl:s.chg.length<1073741824) :
  Calls Tryz.prog 69 #[.pointer (some ⟨d,0,none⟩),.string n] w fun e w'=>e=.returned (.int .i64 ((s.delete n.data.toList).2:Nat))∧Went w w' F d (s.delete n.data.toList).1:=by
 rcases Bool.eq_false_or_eq_true s.off with ho | ho
 ·have hR:s.delete n.data.toList=(s,7):=by unfold Dsk.delete;rw[if_pos ho]
  rw[hR];clear hR;have hf:=Lib.hid (file_off h n hn ho);replace ho:=Lib.hid ho;replace hn:=Lib.hid hn
  go_enter Tryz.func69,Tryz.ntmps69
  go_wp2_with fail
  refine hf.out.mono ?_;rintro e w' ⟨rfl,rfl⟩;go_wp2_with fail
  go_ret
  exact⟨rfl,.of (KeptBut.refl _ _) h⟩
 ·cases hg:getM n.data.toList s.names with
  | none =>
   have hR:s.delete n.data.toList=(s,4):=by unfold Dsk.delete;rw[if_neg (by rw[ho];decide),hg]
   rw[hR];clear hR;have hf:=Lib.hid (file_none h n hn ho hg);replace ho:=Lib.hid ho;replace hg:=Lib.hid hg;replace hn:=Lib.hid hn
   go_enter Tryz.func69,Tryz.ntmps69
   go_wp2_with fail
   refine hf.out.mono ?_;rintro e w' ⟨rfl,rfl⟩;go_wp2_with fail
   go_ret
   exact⟨rfl,.of (KeptBut.refl _ _) h⟩
  | some i =>
   have hR:s.delete n.data.toList=s.changed ⟨n.data.toList,[],none⟩:=by unfold Dsk.delete;rw[if_neg (by rw[ho];decide),hg]
   rw[hR,changed_err];clear hR;have hlen:=getM_len hg (fun p hp=>(ok.names p hp).1);have hf:=Lib.hid (file_some h n hn ho hg);replace ho:=Lib.hid ho;replace hg:=Lib.hid hg;replace hn:=Lib.hid hn;have hcall:=changed_any h ok ⟨n.data.toList,[],none⟩ hlen (by simp) (by simp) (fun i hi=>by cases hi) hnl hl;unfold chgVal at hcall;simp only[Option.map_none,ptrV,bs_of] at hcall;replace hcall:=Lib.hid hcall;clear hlen
   go_enter Tryz.func69,Tryz.ntmps69
   go_wp2_with fail
   refine hf.out.mono ?_;rintro e w' ⟨rfl,rfl⟩;go_wp2_with fail
   refine hcall.out.mono ?_;rintro e w3 ⟨rfl,hw⟩;replace hw:=Lib.hid hw;go_wp2_with fail
   go_ret
   exact⟨rfl,hw.out⟩
section
variable {w w':World}{F F':Nat→Prop}{d:Nat}{L:Lay}{s s':Dsk}
theorem DskAt.setFile (h:DskAt w F d L s){i:Nat}{f f':Fil}(hi:s.files[i]? = some f)(hk:KeptBut w w' (fun k=>k=L.blk i∨(L.row i).ownBlock=some k)){v:Value}
  (hb:Blk w' (L.blk i) 83 #[v,.int .i64 f'.k]) (ho:OwnB w' 0 v f'.d) (hv:∀k,v.ownBlock=some k→(L.row i).ownBlock=some k∨(w.heap.size≤k∧k<w'.heap.size)) (hdi:¬L.dead i) :
  DskAt w' (DFx F w w') d { L with row:=fun j=>if j=i then v else L.row j } { s with files:=s.files.set i f' }∧KeptBut w w' F:=by
 obtain⟨f1,f2,f3,f4,f5⟩:=h.inF;have hil:=(List.getElem?_eq_some_iff.1 hi).1;obtain⟨bi,oi⟩:=h.file i f hi hdi;refine⟨⟨?_,?_,?_,?_,fun j g hj dj=>?_,⟨.inl f1,.inl f2,.inl f3,fun k e=>.inl (f4 k e),fun j hj dj=>?_⟩,h.ne,fun a b ha hb' da db e=>?_,⟨h.live.1,h.live.2.1,h.live.2.2.1,fun j hj=>by rw[List.length_set];exact h.live.2.2.2 j hj⟩,fun a b k ha hb' da db e1 e2=>?_⟩,hk.mono (fun k _ e=>e.elim (fun e=>e ▸ (f5 i hil hdi).1) ((f5 i hil hdi).2 k))⟩
 ·exact h.box.keptB hk (fun e=>e.elim (fun e=>blk_ne_blk bi h.box (by decide) e.symm) (fun e=>own_ne_blk oi h.box (by decide) _ e rfl))
 ·exact h.names.block (hk.block _ h.names.lt (fun e=>e.elim (map_ne_blk h.names bi) (fun e=>own_ne_map oi h.names _ e rfl)))
 ·exact h.last.block (hk.block _ h.last.lt (fun e=>e.elim (map_ne_blk h.last bi) (fun e=>own_ne_map oi h.last _ e rfl)))
 ·exact own_kept h.chg hk (fun k e1 e=>e.elim (own_ne_blk h.chg bi (by decide) k e1) (own_ne_own h.chg oi (by decide) k e1))
 ·by_cases e:j=i
  ·subst e;rw[List.getElem?_set_self hil] at hj;injection hj with hj;subst hj
   dsimp only
   rw[if_pos rfl];exact⟨hb,ho⟩
  ·rw[List.getElem?_set_ne (fun e2=>e e2.symm)] at hj;have hjl:=(List.getElem?_eq_some_iff.1 hj).1;obtain⟨bj,oj⟩:=h.file j g hj dj
   dsimp only
   rw[if_neg e]
   exact⟨bj.keptB hk (fun e2=>e2.elim (fun e2=>e (h.inj _ _ hjl hil dj hdi e2)) (fun e2=>own_ne_blk oi bj (by decide) _ e2 rfl)),
    own_kept oj hk (fun k e1 e2=>e2.elim (own_ne_blk oj bi (by decide) k e1) (fun e2=>e (h.rows _ _ k hjl hil dj hdi e1 e2)))⟩
 ·simp at hj;refine⟨.inl (f5 j hj dj).1,fun k hk'=>?_⟩
  dsimp only at hk'
  by_cases e:j=i
  ·rw[if_pos e] at hk';rcases hv k hk' with e2 | e2
   ·exact .inl ((f5 i hil hdi).2 k e2)
   ·exact .inr e2
  ·rw[if_neg e] at hk';exact .inl ((f5 j hj dj).2 k hk')
 ·simp at ha hb';exact h.inj a b ha hb' da db e
 ·simp at ha hb'
  dsimp only at e1 e2
  have old:∀j,j<s.files.length→¬L.dead j→∀k,(L.row j).ownBlock=some k→k<w.heap.size:=fun j hj dj k e=>(own_lt (h.file j _ (List.getElem?_eq_getElem hj) dj).2 k e).2
  by_cases ea:a=i<;>by_cases eb:b=i
  ·omega
  ·rw[if_pos ea] at e1;rw[if_neg eb] at e2;rcases hv k e1 with e3 | e3
   ·exact absurd (h.rows _ _ k hb' hil db hdi e2 e3) eb
   ·have:=old b hb' db k e2;omega
  ·rw[if_neg ea] at e1;rw[if_pos eb] at e2;rcases hv k e2 with e3 | e3
   ·exact absurd (h.rows _ _ k ha hil da hdi e1 e3) ea
   ·have:=old a ha da k e1;omega
  ·rw[if_neg ea] at e1;rw[if_neg eb] at e2;exact h.rows a b k ha hb' da db e1 e2
end
theorem Dsk.file_at {s:Dsk}(ok:s.Ok){n:List UInt8}{i:Nat}(hg:getM n s.names=some i):∃f,s.files[i]? = some f∧f∈s.files:=by
 have h:=(ok.names _ (getM_mem hg)).2;exact⟨s.files[i],List.getElem?_eq_getElem h,List.getElem_mem h⟩
theorem Dsk.setF_at {s:Dsk}{i:Nat}{f:Fil}(g:Fil→Fil)(hi:s.files[i]? = some f):s.setF i g={ s with files:=s.files.set i (g f) }:=by
 unfold Dsk.setF;rw[hi]
set_option maxRecDepth 100000 in
set_option maxHeartbeats 2000000 in
theorem Sync_any {w:World}{F:Nat→Prop}{d:Nat}{L:Lay}{s:Dsk}(h:DskAt w F d L s)(ok:s.Ok)(n:ByteArray)(hn:n.size≤maxLen) :
  Calls Tryz.prog 28 #[.pointer (some ⟨d,0,none⟩),.string n] w fun e w'=>e=.returned (.int .i64 ((s.sync n.data.toList).2:Nat))∧Went w w' F d (s.sync n.data.toList).1:=by
 rcases Bool.eq_false_or_eq_true s.off with ho | ho
 ·have hR:s.sync n.data.toList=(s,7):=by unfold Dsk.sync;rw[if_pos ho]
  rw[hR];clear hR;have hf:=Lib.hid (file_off h n hn ho);replace ho:=Lib.hid ho;replace hn:=Lib.hid hn
  go_enter Tryz.func28,Tryz.ntmps28
  go_wp2_with fail
  refine hf.out.mono ?_;rintro e w' ⟨rfl,rfl⟩;go_wp2_with fail
  go_ret
  exact⟨rfl,.of (KeptBut.refl _ _) h⟩
 ·cases hg:getM n.data.toList s.names with
  | none =>
   have hR:s.sync n.data.toList=(s,4):=by unfold Dsk.sync;rw[if_neg (by rw[ho];decide),hg]
   rw[hR];clear hR;have hf:=Lib.hid (file_none h n hn ho hg);replace ho:=Lib.hid ho;replace hg:=Lib.hid hg;replace hn:=Lib.hid hn
   go_enter Tryz.func28,Tryz.ntmps28
   go_wp2_with fail
   refine hf.out.mono ?_;rintro e w' ⟨rfl,rfl⟩;go_wp2_with fail
   go_ret
   exact⟨rfl,.of (KeptBut.refl _ _) h⟩
  | some i =>
   have hf:=Lib.hid (file_some h n hn ho hg);have hcall:=burns_any h ok;have hdF:=h.inF.1;rcases Bool.eq_false_or_eq_true s.burn.off with hb | hb
   ·have hR:s.sync n.data.toList=(s.burn,7):=by unfold Dsk.sync;rw[if_neg (by rw[ho];decide),hg];exact if_pos hb
    rw[hR];rw[hb] at hcall;simp only[errB,if_true] at hcall;clear hR;replace hb:=Lib.hid hb;replace ho:=Lib.hid ho;replace hg:=Lib.hid hg;replace hn:=Lib.hid hn;replace hcall:=Lib.hid hcall
    go_enter Tryz.func28,Tryz.ntmps28
    go_wp2_with fail
    refine hf.out.mono ?_;rintro e w' ⟨rfl,rfl⟩;go_wp2_with fail
    refine hcall.out.mono ?_;rintro e w1 ⟨rfl,hD,hk⟩;replace hk:=Lib.hid hk;go_wp2_with fail
    go_ret
    exact⟨rfl,.of (hk.out.mono (fun k _ e=>e ▸ hdF)) hD⟩
   ·obtain⟨f,hi,hfm⟩:=Dsk.file_at ok hg
    have hi1:s.burn.files[i]? = some f:=by rw[Dsk.burn_same.1];exact hi
    have hR:s.sync n.data.toList=(s.burn.setF i fun f=>⟨f.d,f.d.length⟩,0):=by unfold Dsk.sync;rw[if_neg (by rw[ho];decide),hg];exact if_neg (by rw[hb];decide)
    rw[hR,Dsk.setF_at _ hi1];rw[hb] at hcall;simp only[errB] at hcall;clear hR;replace hb:=Lib.hid hb;replace ho:=Lib.hid ho;replace hg:=Lib.hid hg;replace hn:=Lib.hid hn;replace hi:=Lib.hid hi;replace hi1:=Lib.hid hi1;replace hcall:=Lib.hid hcall
    go_enter Tryz.func28,Tryz.ntmps28
    go_wp2_with fail
    refine hf.out.mono ?_;rintro e w' ⟨rfl,rfl⟩;go_wp2_with fail
    refine hcall.out.mono ?_;rintro e w1 ⟨rfl,hD,hk⟩;have hdi:=h.live.1 _ (getM_mem hg.out);obtain⟨bi,oi⟩:=hD.file i f hi1.out hdi;obtain⟨A,cap,hv⟩:=oi.form;have b0:=bi.cell 0;have b1:=bi.cell 1;have g1:=bi.frozen 1;rw[hv] at b0
    have hk2:KeptBut w1 (w1.setCell ⟨L.blk i,1,none⟩ (.int .i64 f.d.length)) (fun k=>k=L.blk i∨(L.row i).ownBlock=some k):=(KeptBut.refl w1 _).then_set (.inl rfl)
    have hset:=hD.setFile (f':=⟨f.d,f.d.length⟩) (v:=L.row i) hi1.out hk2 (by simpa using bi.set_ 1 (.int .i64 f.d.length)) (own_block oi fun k hk'=>Below.heap_setCell _ _ _ _ (own_ne_blk oi bi (by decide) k hk')) (fun k e=>.inl e) hdi;replace hset:=Lib.hid hset;replace hk:=Lib.hid hk;replace hv:=Lib.hid hv;have hs1:=hk.out.size;clear hk2;go_wp2_with fail
    go_ret
    exact⟨rfl,(hk.out.mono (fun k _ e=>e ▸ hdF)).trans hset.out.2 (fun k _ e=>e),_,hset.out.1.more (fun k hk=>hk.elim .inl (fun e=>.inr ⟨by omega,e.2⟩))⟩
set_option maxRecDepth 100000 in
set_option maxHeartbeats 2000000 in
theorem Read_any {w:World}{F:Nat→Prop}{d:Nat}{L:Lay}{s:Dsk}(h:DskAt w F d L s)(ok:s.Ok)(n:ByteArray)(hn:n.size≤maxLen) :
  Calls Tryz.prog 36 #[.pointer (some ⟨d,0,none⟩),.string n] w fun e w'=>e=.returned (.tuple #[.string (bs (s.read n.data.toList).1),.int .i64 ((s.read n.data.toList).2:Nat)])∧w=w':=by
 rcases Bool.eq_false_or_eq_true s.off with ho | ho
 ·have hR:s.read n.data.toList=([],7):=by unfold Dsk.read;rw[if_pos ho]
  rw[hR];clear hR;have hf:=Lib.hid (file_off h n hn ho);replace ho:=Lib.hid ho;replace hn:=Lib.hid hn
  go_enter Tryz.func36,Tryz.ntmps36
  go_wp2_with fail
  refine hf.out.mono ?_;rintro e w' ⟨rfl,rfl⟩;go_wp2_with fail
  go_ret2
  exact⟨rfl,rfl⟩
 ·cases hg:getM n.data.toList s.names with
  | none =>
   have hR:s.read n.data.toList=([],4):=by unfold Dsk.read;rw[if_neg (by rw[ho];decide),hg]
   rw[hR];clear hR;have hf:=Lib.hid (file_none h n hn ho hg);replace ho:=Lib.hid ho;replace hg:=Lib.hid hg;replace hn:=Lib.hid hn
   go_enter Tryz.func36,Tryz.ntmps36
   go_wp2_with fail
   refine hf.out.mono ?_;rintro e w' ⟨rfl,rfl⟩;go_wp2_with fail
   go_ret2
   exact⟨rfl,rfl⟩
  | some i =>
   have hf:=Lib.hid (file_some h n hn ho hg);obtain⟨f,hi,hfm⟩:=Dsk.file_at ok hg
   have hR:s.read n.data.toList=(f.d,0):=by unfold Dsk.read;rw[if_neg (by rw[ho];decide),hg];simp only[hi]
   rw[hR];obtain⟨bi,oi⟩:=h.file i f hi (h.live.1 _ (getM_mem hg));have hrun:=oi.text;have b0:=bi.cell 0;clear hR;replace ho:=Lib.hid ho;replace hg:=Lib.hid hg;replace hn:=Lib.hid hn;replace hi:=Lib.hid hi
   go_enter Tryz.func36,Tryz.ntmps36
   go_wp2_with fail
   refine hf.out.mono ?_;rintro e w' ⟨rfl,rfl⟩;go_wp2_with fail
   go_ret2
   exact⟨rfl,rfl⟩
theorem nm_key_inv {P:Program}{k:TypeId}(hk:P.underlying k=some .string){v:Value}{kl:Lit}(h:keyOf P k v=some kl):∃s:ByteArray,v=.string s∧kl=.string s.data.toList∧s.size≤maxLen:=by
 cases v<;>simp[keyOf,hk,mapKey] at h
 rename_i s
 exact⟨s,rfl,h.2.symm,h.1⟩
theorem ptrR_shape {v:Value}{y:DataW Unit × List MemPlace}(h:ptrR v=some y):∃c:Option Nat,v=ptrV c:=by
 unfold ptrR at h
 split at h
 ·rename_i b;exact⟨some b,rfl⟩
 ·exact⟨none,rfl⟩
 ·cases h
section
variable {P:Program}(w:World){ops:Array Oper}{rest:List Oper}{o:Oper}{a:Act}{Q:Exit→Act→World→Prop}
theorem wpList_nm_range (hgd:o.guard=none)(mo:Operand)(t:TypeId)(hop:o.op=Op.range t mo)(k e:TypeId)(hk:P.underlying k=some .string)(ht:P.underlying t=some (.map k e))(g:Nat)(m:NM)
  (hm:a.eval mo=.map (some g)) (h:MapAt P k w g m)
  (hK:∀w',w'.ranges P k ptrR g w.heap.size m.length (nmD m) (Maps.has (nmD m)) (Maps.size (nmD m))→w.grownBy w' none→w'.heap.size=w.heap.size+1→wpList P ops Q rest (a.put o.dst (.pointer (some ⟨w.heap.size,0,none⟩))) w'):wpList P ops Q (o::rest) a w :=
 wpList_range_own w hgd mo t hop k e (Maps.string_keyed hk) ht ptrR g m.length (nmD m) hm h hK
theorem wpList_nm_next (hgd:o.guard=none)(it:Operand)(hop:o.op=Op.next it false)(k:TypeId)(hk:P.underlying k=some .string)(g r:Nat)(m:NM)(left:Lit→Bool)(cnt:Nat)
  (hit:a.eval it=.pointer (some ⟨r,0,none⟩)) (h:w.ranges P k ptrR g r m.length (nmD m) left cnt)
  (hDone:cnt=0→(∀kl,left kl=false)→wpList P ops Q rest (a.put o.dst (.tuple #[.bool false])) w)
  (hMore:∀(x:ByteArray) (b:Nat) (w':World) (cnt':Nat),getM x.data.toList m=some b→left (.string x.data.toList)=true→w'.ranges P k ptrR g r m.length (nmD m) (fun z=>left z&&!z.sameKey (.string x.data.toList)) cnt'→cnt'<cnt →
   w.grownBy w' (some r)→w'.heap.size=w.heap.size→(Instr.entry (.pointer (some ⟨r,0,none⟩))).run P w'=.ok (.tuple #[.string x,.pointer (some ⟨b,0,none⟩)]) w'→wpList P ops Q rest (a.put o.dst (.tuple #[.bool true,.string x,.pointer (some ⟨b,0,none⟩)])) w'):wpList P ops Q (o::rest) a w:=by
 refine wpList_next_ranges (β:=Option Nat) w hgd it hop k (Maps.string_keyed hk) ptrR Value.string ptrV (fun key kl hkey=>by obtain⟨s,e,_⟩:=nm_key_inv hk hkey;exact⟨s,e⟩) (fun v y hv=>ptrR_shape hv) g r m.length (nmD m) left cnt hit h hDone ?_;intro x c kl y w' cnt' hkey hlk hR hat hrg hlt hgr hsz hen;obtain⟨s,e1,rfl,_⟩:=nm_key_inv hk hkey;injection e1 with e1;subst e1;have h1:=hat .nil;have h2:=hat (.lit (.bool true));rw[nmD_at] at h1 h2
 cases hg:getM x.data.toList m with
 | none =>
  rw[hg] at h1 h2;simp only[] at h1 h2;rw[←h1] at h2;cases h2
 | some b =>
  rw[hg] at h1;simp only[] at h1;obtain⟨y1,y2⟩:=y;simp only[] at h1;subst h1;have:=ptrR_some hR;rw[this] at hen ⊢;exact hMore x b w' cnt' hg hlk hrg hlt hgr hsz hen
end
theorem MapAt.keys {P:Program}{k:TypeId}{w:World}{g:Nat}{m:NM}(h:MapAt P k w g m)(hk:P.underlying k=some .string):m.Pairwise (fun p q=>p.1≠q.1):=by
 obtain⟨es,e,hp,_⟩:=World.ownsMap.entries h (Maps.string_keyed hk);unfold nmD at e;injection e with e;subst e;rw[List.pairwise_map] at hp;exact hp.imp fun {a b} hab e=>hab (by unfold nmE;simp only[e])
theorem sum_step (val:Nat→Nat)(left:List UInt8→Bool)(k:List UInt8)(i:Nat)(hl:left k=true):∀m:NM,m.Pairwise (fun p q=>p.1≠q.1)→getM k m=some i →
  ((m.filter fun p=>!(left p.1&&!(p.1==k))).map fun p=>val p.2).sum=((m.filter fun p=>!left p.1).map fun p=>val p.2).sum+val i
 | [],_,hg=>by cases hg
 | p::m,hp,hg=>by
  obtain⟨hp1,hp2⟩:=List.pairwise_cons.1 hp
  by_cases e:p.1=k
  ·have hi:p.2=i:=by
    unfold getM at hg;rw[List.find?_cons] at hg
    simpa[e] using hg
   have hrest:m.filter (fun p=>!(left p.1&&!(p.1==k)))=m.filter fun p=>!left p.1:=by
    refine List.filter_congr fun q hq=>?_;have:q.1≠k:=fun e2=>hp1 q hq (by rw[e,e2]);simp[this]
   rw[List.filter_cons,List.filter_cons,hrest];simp[e,hl,hi];omega
  ·have hg2:getM k m=some i:=by
    unfold getM at hg ⊢;rw[List.find?_cons,show (p.1==k)=false from by simpa using e] at hg;exact hg
   have ih:=sum_step val left k i hl m hp2 hg2;rw[List.filter_cons,List.filter_cons];cases hlp:left p.1
   ·simp[hlp];simp at ih;omega
   ·simp[hlp,e]
    simpa using ih
theorem sum_none (val:Nat→Nat)(left:List UInt8→Bool)(m:NM)(h:∀p∈m,left p.1=true):((m.filter fun p=>!left p.1).map fun p=>val p.2).sum=0:=by
 have:m.filter (fun p=>!left p.1)=[]:=by
  rw[List.filter_eq_nil_iff];intro p hp;simp[h p hp]
 rw[this];rfl
theorem sum_all (val:Nat→Nat)(left:List UInt8→Bool)(m:NM)(h:∀k,left k=false):((m.filter fun p=>!left p.1).map fun p=>val p.2).sum=(m.map fun p=>val p.2).sum:=by
 have:m.filter (fun p=>!left p.1)=m:=by
  rw[List.filter_eq_self];intro p hp;simp[h p.1]
 rw[this]
theorem sum_le (val:Nat→Nat)(B:Nat)(h:∀i,val i≤B)(f:List UInt8 × Nat→Bool):∀m:NM,((m.filter f).map fun p=>val p.2).sum≤m.length*B
 | []=>by simp
 | p::m=>by
  have ih:=sum_le val B h f m;have:=h p.2;rw[List.filter_cons,List.length_cons,Nat.add_mul,Nat.one_mul];split
  ·simp;omega
  ·omega
theorem run_append_str {w:World}{base:Nat}{v:Value}{l:List UInt8}(ty:TypeId)(s:ByteArray)(hown:OwnB w base v l)(hbytes:l.length+s.size≤70368744177664)(hbase:base≤w.heap.size) :
  ∃v' w',(Builtin.append_ #[81,9] ty #[v,.string s]).run Tryz.prog w=.ok v' w'∧OwnB w' base v' (l++s.data.toList)∧w.grownBy w' v.ownBlock∧(∀k,v'.ownBlock=some k→v.ownBlock=some k∨k=w.heap.size):=by
 obtain⟨i0,hi0,hz0,hz1,hz2⟩:=info_parts u8_info;obtain⟨v',w',hrun,h1,h2,h3⟩:=Lib.run_append_own_string (P:=Tryz.prog) w base 81 9 ty 5 i0 Tryz.underlying81 Tryz.underlying9 hi0 hz0 hz1 hz2 v l.length (l.map B8) hown s (by unfold maxLen;omega) (by omega) hbase;have hsl:s.data.toList.length=s.size:=rfl;refine⟨v',w',hrun,?_,h2,?_⟩
 ·unfold OwnB;rw[List.length_append,List.map_append,hsl];exact h1
 ·rcases hown.2 with⟨rfl,hn⟩ | ⟨g,cap,cur,rfl,hbg,hg,hnc,hcm,hcs,htake⟩
  ·by_cases hm:s.size=0
   ·rw[h3.2 ⟨rfl,hm⟩];intro k hk;cases hk
   ·have hr:=run_append_nil_string (P:=Tryz.prog) w 81 9 ty 5 i0 (.int .u8 0) Tryz.underlying81 Tryz.underlying9 hi0 hz0 s (by omega) (by omega) (by rw[hz2];omega);rw[hrun] at hr;injection hr with hr _;subst hr;intro k hk;injection hk with hk;exact .inr hk.symm
  ·by_cases hroom:l.length+s.size≤cap
   ·have hr:=Lib.run_append_room_string (P:=Tryz.prog) w 81 9 ty 5 i0 Tryz.underlying81 Tryz.underlying9 hi0 hz1 g l.length cap cur hg s hroom (by omega);rw[hrun] at hr;injection hr with hr _;subst hr;exact fun k hk=>.inl hk
   ·have hr:=Lib.run_append_grow_string (P:=Tryz.prog) w 81 9 ty 5 i0 (.int .u8 0) Tryz.underlying81 Tryz.underlying9 hi0 hz0 ⟨g,0,none⟩ l.length cap (l.map B8) (by rw[hz1];simp) (hown.cells (g:=g) rfl) s (by omega) (by omega) (by rw[hz2];exact growslice_fits (by omega) (by omega));rw[hrun] at hr;injection hr with hr _;subst hr;intro k hk;injection hk with hk;exact .inr hk.symm
theorem wpList_append_str {w:World}{ops:Array Oper}{rest:List Oper}{o:Oper}{a:Act}{Q:Exit→Act→World→Prop}(hgd:o.guard=none)(sl x:Operand)
  (ho:o.op=.call { callee:=.builtin .append,args:=#[sl,x],argTypes:=#[81,9] })
  (base:Nat) (v:Value) (l:List UInt8) (hs:a.eval sl=v) (hown:OwnB w base v l) (s:ByteArray) (hx:a.eval x=.string s) (hbytes:l.length+s.size≤70368744177664) (hbase:base≤w.heap.size)
  (h:∀v' w',OwnB w' base v' (l++s.data.toList)→w.grownBy w' v.ownBlock→(∀k,v'.ownBlock=some k→v.ownBlock=some k∨k=w.heap.size)→wpList Tryz.prog ops Q rest (a.put o.dst v') w'):wpList Tryz.prog ops Q (o::rest) a w:=by
 refine wpList_plain hgd fun K hK=>?_;obtain⟨v',w',hr,h2,h3,h4⟩:=run_append_str o.type s hown hbytes hbase;unfold Oper.wp execOp;simp only[ho,resolve,invoke,builtin,Sem.run_bind,Sem.run_pure,Result.andThen_ok,List.map_toArray,List.map_cons,List.map_nil,hs,hx,hr];exact hK _ _ (h v' w' h2 h3 h4)
theorem Dsk.dlen_le {s:Dsk}(ok:s.Ok)(i:Nat):s.dlen i≤1048576:=by
 unfold Dsk.dlen
 cases h:s.files[i]? with
 | none=>simp
 | some f=>exact (ok.file f (List.mem_of_getElem? h)).2
def leftB (left:Lit→Bool)(k:List UInt8):Bool:=left (.string k)
def sumU (s:Dsk)(left:Lit→Bool):Nat:=((s.names.filter fun p=>!leftB left p.1).map fun p=>s.dlen p.2).sum
set_option maxRecDepth 100000 in
set_option maxHeartbeats 2000000 in
theorem Used_any {w:World}{F:Nat→Prop}{d:Nat}{L:Lay}{s:Dsk}(h:DskAt w F d L s)(ok:s.Ok)(hnl:s.names.length<1073741824) :
  Calls Tryz.prog 13 #[.pointer (some ⟨d,0,none⟩)] w fun e w'=>e=.returned (.int .i64 (s.used:Nat))∧Below w.heap.size w w':=by
 have hn:=Lib.hid (none_any h);have c1:=h.box.cell 1;have hdl:=h.lt
 have hnd:s.names.Pairwise (fun p q=>p.1≠q.1):=by
  have:=h.names.keys Tryz.underlying9;unfold mvM at this;rw[List.pairwise_map] at this;exact this
 have hhas:∀p∈s.names,Maps.has (nmD (mvM L.blk s.names)) (.string p.1)=true:=by
  intro p hp;rw[nmD_has,mvM_get]
  cases hg:getM p.1 s.names with
  | none=>exact absurd rfl (getM_none hg p hp)
  | some i=>rfl
 have hstart:sumU s (Maps.has (nmD (mvM L.blk s.names)))=0:=sum_none _ _ _ hhas;replace hnd:=Lib.hid hnd;clear hhas;replace hstart:=Lib.hid hstart
 go_enter Tryz.func13,Tryz.ntmps13
 go_wp2_with fail
 refine hn.out.mono ?_;rintro e w' ⟨rfl,rfl⟩
 go_wp2_with (at_range;refine wpList_nm_range _ rfl _ 72 rfl 9 76 Tryz.underlying9 Tryz.underlying72 L.gN (mvM L.blk s.names) rfl h.names ?_;intro w0 hrg0 hg0 hs0)
 have hb0:Below w.heap.size w w0:=⟨hg0.os,hg0.tape,hg0.output,hg0.size,fun k hk=>hg0.block k hk (by simp)⟩
 go_frame
 go_loopw [3] (fun v wr=>∃left cnt,wr.ranges Tryz.prog 9 ptrR L.gN w.heap.size (mvM L.blk s.names).length (nmD (mvM L.blk s.names)) left cnt∧v=.int .i64 (sumU s left:Nat)∧Below w.heap.size w wr) (fun _ wr=>wr.rangeLeft L.gN w.heap.size)
 case atStart=>exact⟨_,_,hrg0,by rw[hstart.out];rfl,hb0⟩
 case round =>
  obtain⟨left,cnt,hrg,rfl,hbr⟩:=hrel
  have hsum:sumU s left≤1125899906842624:=by
   have h1:=sum_le s.dlen 1048576 (Dsk.dlen_le ok) (fun p=>!leftB left p.1) s.names;unfold sumU;omega
  have hle:=hrg.left_eq;replace hrg:=Lib.hid hrg;replace hle:=Lib.hid hle;replace hrg0:=Lib.hid hrg0
  have hfi:∀(x:ByteArray) (b:Nat),getM x.data.toList (mvM L.blk s.names)=some b→∃i f A cap,getM x.data.toList s.names=some i∧b=L.blk i∧s.files[i]? = some f∧s.dlen i=f.d.length∧w.cell? ⟨b,0,none⟩=some (.slice A f.d.length cap)∧b<w.heap.size:=by
   intro x b hg;rw[mvM_get] at hg
   cases hg2:getM x.data.toList s.names with
   | none=>rw[hg2] at hg;cases hg
   | some i =>
    rw[hg2] at hg;injection hg with hg;obtain⟨f,hf,hm⟩:=Dsk.file_at ok hg2;obtain⟨bi,oi⟩:=h.file i f hf (h.live.1 _ (getM_mem hg2));obtain⟨A,cap,hv⟩:=oi.form;have b0:=bi.cell 0;rw[hv] at b0;exact⟨i,f,A,cap,rfl,hg.symm,hf,by unfold Dsk.dlen;rw[hf],by rw[←hg];simpa using b0,by rw[←hg];exact bi.lt⟩
  replace hfi:=Lib.hid hfi
  go_wp2_with (at_next;refine wpList_nm_next _ rfl _ rfl 9 Tryz.underlying9 L.gN w.heap.size (mvM L.blk s.names) left cnt rfl hrg.out ?_ ?_)
  ·intro hc0 hl0;have hfin:sumU s left=s.used:=sum_all s.dlen (leftB left) s.names (fun k=>hl0 _);replace hfin:=Lib.hid hfin;clear hl0 hc0;go_wp2_with fail
   go_ret
   exact⟨by rw[hfin.out];rfl,hbr⟩
  ·intro x b w1 cnt1 hg hl hrg1 hlt hg1 hs1 hen;obtain⟨i,f,A,cap,hgi,rfl,hf,hd,hcell,hbl⟩:=hfi.out x b hg;have hb1:Below w.heap.size w w1:=hbr.trans ⟨hg1.os,hg1.tape,hg1.output,hg1.size,fun k hk=>hg1.block k (by have:=hbr.size;omega) (by simp;omega)⟩;have q:w1.cell? ⟨L.blk i,0,none⟩=some (.slice A f.d.length cap):=(hb1.cell (p:=⟨L.blk i,0,none⟩) hbl).trans hcell
   have hsn:sumU s (fun z=>left z&&!z.sameKey (.string x.data.toList))=sumU s left+f.d.length:=by
    rw[←hd];exact sum_step s.dlen (leftB left) x.data.toList i hl s.names hnd.out hgi
   have hdl2:f.d.length≤1048576:=(ok.file f (List.mem_of_getElem? hf)).2;replace hsn:=Lib.hid hsn;replace hrg1:=Lib.hid hrg1;replace hgi:=Lib.hid hgi;replace hf:=Lib.hid hf;replace hd:=Lib.hid hd;replace hg:=Lib.hid hg;replace hl:=Lib.hid hl;clear hcell;go_wp2_with fail
   go_roundw
   case rel=>exact⟨_,_,hrg1.out,by rw[hsn.out];go_num,hb1⟩
   case measure=>rw[hrg1.out.left_eq,hle.out];exact hlt
set_option maxRecDepth 100000 in
set_option maxHeartbeats 2000000 in
theorem Append_any {w:World}{F:Nat→Prop}{d:Nat}{L:Lay}{s:Dsk}(h:DskAt w F d L s)(ok:s.Ok)(n x:ByteArray)(hn:n.size≤maxLen)(hx:x.size≤1073741824)(hnl:s.names.length<1073741824) :
  Calls Tryz.prog 12 #[.pointer (some ⟨d,0,none⟩),.string n,.string x] w fun e w'=>e=.returned (.int .i64 ((s.append n.data.toList x.data.toList).2:Nat))∧Went w w' F d (s.append n.data.toList x.data.toList).1:=by
 have hxs:x.data.toList.length=x.size:=rfl;rcases Bool.eq_false_or_eq_true s.off with ho | ho
 ·have hR:s.append n.data.toList x.data.toList=(s,7):=by unfold Dsk.append;rw[if_pos ho]
  rw[hR];clear hR;have hf:=Lib.hid (file_off h n hn ho);replace ho:=Lib.hid ho;replace hn:=Lib.hid hn
  go_enter Tryz.func12,Tryz.ntmps12
  go_wp2_with fail
  refine hf.out.mono ?_;rintro e w' ⟨rfl,rfl⟩;go_wp2_with fail
  go_ret
  exact⟨rfl,.of (KeptBut.refl _ _) h⟩
 ·cases hg:getM n.data.toList s.names with
  | none =>
   have hR:s.append n.data.toList x.data.toList=(s,4):=by unfold Dsk.append;rw[if_neg (by rw[ho];decide),hg]
   rw[hR];clear hR;have hf:=Lib.hid (file_none h n hn ho hg);replace ho:=Lib.hid ho;replace hg:=Lib.hid hg;replace hn:=Lib.hid hn
   go_enter Tryz.func12,Tryz.ntmps12
   go_wp2_with fail
   refine hf.out.mono ?_;rintro e w' ⟨rfl,rfl⟩;go_wp2_with fail
   go_ret
   exact⟨rfl,.of (KeptBut.refl _ _) h⟩
  | some i =>
   have hf:=Lib.hid (file_some h n hn ho hg);have hu:=fun (wz:World) (hz:DskAt wz F d L s)=>Used_any hz ok hnl;have c0:=h.box.cell 0;have hdl:=h.lt;have hdF:=h.inF.1;have hr0:=ok.room
   have hus:s.used≤1125899906842624:=by
    have h1:=sum_le s.dlen 1048576 (Dsk.dlen_le ok) (fun _=>true) s.names;rw[List.filter_eq_self.2 (fun _ _=>rfl)] at h1;unfold Dsk.used;omega
   obtain⟨f,hi,hfm⟩:=Dsk.file_at ok hg;have hfl:=(ok.file f hfm).2;replace hu:=Lib.hid hu;replace hn:=Lib.hid hn
   by_cases hroom:s.room<s.used+x.size
   ·have hR:s.append n.data.toList x.data.toList=(s,6):=by unfold Dsk.append;rw[if_neg (by rw[ho];decide),hg];exact if_pos (by rw[hxs];exact hroom)
    rw[hR];clear hR
    have ht:(s.room:Int)-(s.used:Int)<(x.size:Int):=by omega
    replace ho:=Lib.hid ho;replace hg:=Lib.hid hg;replace hi:=Lib.hid hi;clear hxs
    go_enter Tryz.func12,Tryz.ntmps12
    go_wp2_with fail
    refine hf.out.mono ?_;rintro e w' ⟨rfl,rfl⟩;go_wp2_with fail
    have hxc:=@Ext.cell;refine wp_region_ext (by kernel_rfl) (by kernel_rfl) ?_
    repeat (go_big_quiet_step ((first | (go_at_call 13;exact Calls.ext (hu.out _ (h.below (Ext.below _)))))))
    refine wpQuiet_nil ?_;clear hxc;intro wx hwx;obtain⟨x,hx⟩:=hwx;have hb:=x.below;rw[←hx] at hb;clear hx x;have hDx:=h.below hb;have hKx:=KeptBut.of_below hb (S:=F);replace hKx:=Lib.hid hKx;clear hb;go_wp2_with fail
    go_ret
    exact⟨rfl,.of hKx.out hDx⟩
   ·have ht:¬(s.room:Int)-(s.used:Int)<(x.size:Int):=by omega
    have ht2:(x.size:Int)≤(s.room:Int)-(s.used:Int):=by omega
    rcases Bool.eq_false_or_eq_true s.burn.off with hb2 | hb2
    ·have hR:s.append n.data.toList x.data.toList=(s.burn,7):=by unfold Dsk.append;rw[if_neg (by rw[ho];decide),hg];exact (if_neg (by rw[hxs];exact hroom)).trans (if_pos hb2)
     rw[hR];clear hR hxs;replace ho:=Lib.hid ho;replace hg:=Lib.hid hg;replace hi:=Lib.hid hi
     go_enter Tryz.func12,Tryz.ntmps12
     go_wp2_with fail
     refine hf.out.mono ?_;rintro e w' ⟨rfl,rfl⟩;go_wp2_with fail
     have hxc:=@Ext.cell;refine wp_region_ext (by kernel_rfl) (by kernel_rfl) ?_
     repeat (go_big_quiet_step ((first | (go_at_call 13;exact Calls.ext (hu.out _ (h.below (Ext.below _)))))))
     refine wpQuiet_nil ?_;clear hxc;intro wx hwx;obtain⟨x,hx⟩:=hwx;have hb:=x.below;rw[←hx] at hb;clear hx x;have hDx:=h.below hb;have hKx:=KeptBut.of_below hb (S:=F);have hcall:=burns_any hDx ok;replace hKx:=Lib.hid hKx;replace hcall:=Lib.hid hcall;rw[hb2] at hcall;simp only[errB,if_true] at hcall;clear hb;go_wp2_with fail
     refine hcall.out.mono ?_;rintro e w2 ⟨rfl,hD2,hk2⟩;have hK2:=hKx.out.trans hk2 (fun k _ e=>e ▸ hdF);replace hK2:=Lib.hid hK2;clear hk2;go_wp2_with fail
     go_ret
     exact⟨rfl,.of hK2.out hD2⟩
    ·have hi1:s.burn.files[i]? = some f:=by rw[Dsk.burn_same.1];exact hi
     have hR:s.append n.data.toList x.data.toList=(s.burn.setF i fun f=>⟨f.d++x.data.toList,f.k⟩,0):=by unfold Dsk.append;rw[if_neg (by rw[ho];decide),hg];exact (if_neg (by rw[hxs];exact hroom)).trans (if_neg (by rw[hb2];decide))
     rw[hR,Dsk.setF_at _ hi1];clear hR hxs;replace hi1:=Lib.hid hi1;replace ho:=Lib.hid ho;replace hg:=Lib.hid hg;replace hi:=Lib.hid hi
     go_enter Tryz.func12,Tryz.ntmps12
     go_wp2_with fail
     refine hf.out.mono ?_;rintro e w' ⟨rfl,rfl⟩;go_wp2_with fail
     have hxc:=@Ext.cell;refine wp_region_ext (by kernel_rfl) (by kernel_rfl) ?_
     repeat (go_big_quiet_step ((first | (go_at_call 13;exact Calls.ext (hu.out _ (h.below (Ext.below _)))))))
     refine wpQuiet_nil ?_;clear hxc;intro wx hwx;obtain⟨x,hx⟩:=hwx;have hb:=x.below;rw[←hx] at hb;clear hx x;have hDx:=h.below hb;have hKx:=KeptBut.of_below hb (S:=F);have hcall:=burns_any hDx ok;replace hKx:=Lib.hid hKx;replace hcall:=Lib.hid hcall;rw[hb2] at hcall;simp only[errB] at hcall;clear hb;go_wp2_with fail
     refine hcall.out.mono ?_;rintro e w2 ⟨rfl,hD2,hk2⟩;have hK2:=hKx.out.trans hk2 (fun k _ e=>e ▸ hdF);have hdi:=h.live.1 _ (getM_mem hg.out);obtain⟨bi,oi⟩:=hD2.file i f hi1.out hdi;have b0:=bi.cell 0;have hbl:=bi.lt;replace hK2:=Lib.hid hK2;clear hk2
     go_wp2_with (at_builtin;refine wpList_append_str rfl (.tmp 40) (.tmp 41) rfl 0 (L.row i) f.d rfl oi x rfl (by omega) (Nat.zero_le _) ?_;intro v3 w3 ho3 hg3 hat3;obtain⟨A3,cap3,rfl⟩:=ho3.form;have c3:=World.cell?_of_block (a:=(⟨L.blk i,0,none⟩:Addr)) (hg3.block (L.blk i) hbl (fun e=>own_ne_blk oi bi (by decide) _ e.symm rfl));have f3:=World.frozen?_of_block (a:=(⟨L.blk i,0,none⟩:Addr)) (hg3.block (L.blk i) hbl (fun e=>own_ne_blk oi bi (by decide) _ e.symm rfl));rw[bi.cell 0] at c3;rw[bi.frozen 0] at f3)
     have hk3:KeptBut w2 (w3.setCell ⟨L.blk i,0,none⟩ (.slice A3 (f.d++x.data.toList).length cap3)) (fun k=>k=L.blk i∨(L.row i).ownBlock=some k):=((KeptBut.refl w2 _).then_grown hg3 (fun k e=>.inr e)).then_set (.inl rfl)
     have hb3:=(bi.grown hg3 (fun e=>own_ne_blk oi bi (by decide) _ e.symm rfl)).set_ 0 (.slice A3 (f.d++x.data.toList).length cap3)
     have hne3:∀k,(Value.slice A3 (f.d++x.data.toList).length cap3).ownBlock=some k→k≠L.blk i:=by
      intro k hk e;rcases hat3 k hk with e2 | e2
      ·exact own_ne_blk oi bi (by decide) _ e2 e
      ·omega
     have hset:=hD2.setFile (f':=⟨f.d++x.data.toList,f.k⟩) (v:=.slice A3 (f.d++x.data.toList).length cap3) hi1.out hk3 (by simpa using hb3) (own_block ho3 fun k hk'=>Below.heap_setCell _ _ _ _ (hne3 k hk')) (fun k e=>(hat3 k e).elim .inl (fun e2=>.inr ⟨by omega,by have:=(own_lt ho3 k e).2;simpa[World.setCell] using this⟩)) hdi
     have hle:(f.d++x.data.toList).length=f.d.length+x.size:=by rw[List.length_append];rfl
     rw[hle] at hset;have hs2:=hK2.out.size
     go_ret
     exact⟨rfl,hK2.out.trans hset.2 (fun k _ e=>e),_,hset.1.more (fun k hk=>hk.elim .inl (fun e=>.inr ⟨by omega,e.2⟩))⟩
set_option maxRecDepth 100000 in
set_option maxHeartbeats 1000000 in
theorem Clone_any {w:World}{g:Nat}{m:NM}(h:MapAt Tryz.prog 9 w g m) :
  Calls Tryz.prog 60 #[.map (some g)] w fun e w'=>e=.returned (.map (some w.heap.size))∧MapAt Tryz.prog 9 w' w.heap.size m∧Below w.heap.size w w'∧w.heap.size<w'.heap.size:=by
 obtain⟨es,clock,hb,F,hs,hD⟩:=h;have hq:=fun w=>run_eql_map_nil (P:=Tryz.prog) w 72 _ _ (some g) Tryz.underlying72;have hB:Below w.heap.size w (w.alloc (.map es clock)):=(Below.refl _ w).alloc (Nat.le_refl _) _;have hM:MapAt Tryz.prog 9 (w.alloc (.map es clock)) w.heap.size m:=⟨es,clock,(MapKept.heap_alloc w _).1,F,hs,hD⟩
 have hlt:w.heap.size<(w.alloc (.map es clock)).heap.size:=by simp
 replace hM:=Lib.hid hM;replace hD:=Lib.hid hD;replace hlt:=Lib.hid hlt
 go_enter Tryz.func60,Tryz.ntmps60
 go_wp2
 rw[run_callFunc_extern Tryz.func91 (by kernel_rfl) (by kernel_rfl) (by kernel_rfl) (e:=Extern.MapsClone.clone) (by kernel_rfl),run_maps_clone_sl w 72 hb];simp only[Result.andThen];rw[Oper.upon_value]
 go_wp2
 rw[run_typeAssert_map_sl _ 72 _ _ _ _ Tryz.underlying72];simp only[Result.andThen];rw[Oper.upon_value]
 go_wp2
 go_ret
 exact⟨rfl,hM.out,hB,hlt.out⟩
theorem new_at (w:World)(r q:Int)(h:q=min (max r 0) 1048576) :
  DskAt (((w.alloc (.map #[] 0)).alloc (.map #[] 0)).alloc (.cells #[.int .i64 q,.map (some w.heap.size),.map (some (w.heap.size+1)),.slice none 0 0,.bool false,.int .i64 0] 75))
   (fun k=>w.heap.size≤k∧k<w.heap.size+1+1+1) (w.heap.size+1+1) ⟨w.heap.size,w.heap.size+1,.slice none 0 0,fun _=>0,fun _=>.slice none 0 0,fun _=>False⟩ (Dsk.new r):=by
 have hq:(((Dsk.new r).room:Nat):Int)=q:=by unfold Dsk.new;simp only[];omega
 refine⟨?_,?_,?_,World.ownsRow_nil _ _ _ _,fun i f hi=>by simp[Dsk.new] at hi,⟨⟨by omega,by omega⟩,⟨by simp,by simp;omega⟩,⟨by simp,by simp⟩,(fun k e=>(by cases e)),(fun i hi=>(by simp[Dsk.new] at hi))⟩,by simp,fun i j hi=>by simp[Dsk.new] at hi,⟨fun _ _=>id,fun _ _=>id,fun _ _ _ _=>id,fun _ h=>h.elim⟩,fun i j k hi=>by simp[Dsk.new] at hi⟩
 ·rw[hq];have:=Blk.new ((w.alloc (.map #[] 0)).alloc (.map #[] 0)) 75 #[.int .i64 q,.map (some w.heap.size),.map (some (w.heap.size+1)),.slice none 0 0,.bool false,.int .i64 0]
  simpa[Dsk.new] using this
 ·have h0:MapAt Tryz.prog 9 (w.alloc (.map #[] 0)) w.heap.size []:=MapAt.new w;have h1:=h0.block (Below.heap_alloc (w.alloc (.map #[] 0)) (.map #[] 0) _ (by simp));exact h1.block (Below.heap_alloc _ _ _ (by simp;omega))
 ·have h0:MapAt Tryz.prog 9 ((w.alloc (.map #[] 0)).alloc (.map #[] 0)) (w.alloc (.map #[] 0)).heap.size []:=MapAt.new _;have h1:=h0.block (Below.heap_alloc _ (.cells #[.int .i64 q,.map (some w.heap.size),.map (some (w.heap.size+1)),.slice none 0 0,.bool false,.int .i64 0] 75) _ (by simp))
  simpa[Dsk.new,mvM] using h1
theorem new_fin (w:World)(r q:Int)(h:q=min (max r 0) 1048576)(w':World)
  (hw:w'=((w.alloc (.map #[] 0)).alloc (.map #[] 0)).alloc (.cells #[.int .i64 q,.map (some w.heap.size),.map (some (w.heap.size+1)),.slice none 0 0,.bool false,.int .i64 0] 75)) :
  (∃L,DskAt w' (fun k=>w.heap.size≤k∧k<w'.heap.size) (w.heap.size+1+1) L (Dsk.new r))∧Below w.heap.size w w':=by
 subst hw;refine⟨⟨_,(new_at w r q h).more (fun k hk=>⟨hk.1,by simp;omega⟩)⟩,(((Below.refl _ w).alloc (Nat.le_refl _) _).alloc (by simp) _).alloc (by simp;omega) _⟩
set_option maxRecDepth 100000 in
set_option maxHeartbeats 1000000 in
theorem dkNew_any (r:Int)(w:World) :
  Calls Tryz.prog 10 #[.int .i64 r] w fun e w'=>∃d,e=.returned (.pointer (some ⟨d,0,none⟩))∧(∃L,DskAt w' (fun k=>w.heap.size≤k∧k<w'.heap.size) d L (Dsk.new r))∧Below w.heap.size w w':=by
 have hmm:=@run_makeMap Tryz.prog
 go_enter Tryz.func10,Tryz.ntmps10
 go_wp2
 all_goals go_ret
 all_goals refine⟨w.heap.size+1+1,rfl,?_⟩
 all_goals refine new_fin w r _ ?_ _ rfl
 all_goals omega
section
variable {w w':World}{F F':Nat→Prop}{d:Nat}{L:Lay}{s s':Dsk}
theorem DskAt.resync (h:DskAt w F d L s){w3 w4:World}(hm:MapAt Tryz.prog 9 w3 w.heap.size (mvM L.blk s.names))(hb:Below w.heap.size w w3)(hlt:w.heap.size<w3.heap.size)
  (hk:KeptBut w3 w4 (fun k=>k=d)) (hbox:Blk w4 d 75 #[.int .i64 s.room,.map (some L.gN),.map (some w.heap.size),.slice none 0 0,.bool s.off,.int .i64 s.fuse]) :
  DskAt w4 (DFx F w w4) d { L with gL:=w.heap.size,vC:=.slice none 0 0 } { s with last:=s.names,chg:=[] }∧KeptBut w w4 F:=by
 obtain⟨f1,f2,f3,f4,f5⟩:=h.inF;have h3:=h.below hb;have hs4:=hk.size;refine⟨⟨hbox,?_,?_,World.ownsRow_nil _ _ _ _,fun i f hi hd=>?_,⟨.inl f1,.inl f2,(.inr ⟨Nat.le_refl _,(by show w.heap.size<w4.heap.size;omega)⟩),(fun k e=>(by cases e)),fun i hi hd=>⟨.inl (f5 i hi hd).1,fun k e=>.inl ((f5 i hi hd).2 k e)⟩⟩,fun e=>?_,h.inj,⟨h.live.1,h.live.1,(fun x hx=>(by cases hx)),h.live.2.2.2⟩,h.rows⟩,(KeptBut.of_below hb (S:=F)).trans hk (fun k _ e=>e ▸ f1)⟩
 ·exact h3.names.block (hk.block _ h3.names.lt (map_ne_blk h3.names h3.box))
 ·exact hm.block (hk.block _ hlt (map_ne_blk hm h3.box))
 ·obtain⟨a,b⟩:=h3.file i f hi hd;exact⟨a.keptB hk (blk_ne_blk a h3.box (by decide)),own_kept b hk (own_ne_blk b h3.box (by decide))⟩
 ·have:=h.names.lt;have e':L.gN=w.heap.size:=e;omega
end
set_option maxRecDepth 100000 in
set_option maxHeartbeats 2000000 in
theorem DirSync_any {w:World}{F:Nat→Prop}{d:Nat}{L:Lay}{s:Dsk}(h:DskAt w F d L s)(ok:s.Ok) :
  Calls Tryz.prog 29 #[.pointer (some ⟨d,0,none⟩)] w fun e w'=>e=.returned (.int .i64 (s.dirsync.2:Nat))∧Went w w' F d s.dirsync.1:=by
 have hdF:=h.inF.1;have hp:=power_any h;rcases Bool.eq_false_or_eq_true s.off with ho | ho
 ·have hR:s.dirsync=(s,7):=by unfold Dsk.dirsync;rw[if_pos ho]
  rw[hR];clear hR;rw[ho] at hp;simp only[if_true] at hp;replace ho:=Lib.hid ho;replace hp:=Lib.hid hp
  go_enter Tryz.func29,Tryz.ntmps29
  go_wp2_with fail
  refine hp.out.mono ?_;rintro e w' ⟨rfl,rfl⟩;go_wp2_with fail
  go_ret
  exact⟨rfl,.of (KeptBut.refl _ _) h⟩
 ·rw[ho] at hp;simp only[Bool.false_eq_true,if_false] at hp;replace hp:=Lib.hid hp;have hcall:=burns_any h ok;rcases Bool.eq_false_or_eq_true s.burn.off with hb | hb
  ·have hR:s.dirsync=(s.burn,7):=by unfold Dsk.dirsync;rw[if_neg (by rw[ho];decide)];exact if_pos hb
   rw[hR];clear hR;rw[hb] at hcall;simp only[errB,if_true] at hcall;replace hcall:=Lib.hid hcall;replace ho:=Lib.hid ho;replace hb:=Lib.hid hb
   go_enter Tryz.func29,Tryz.ntmps29
   go_wp2_with fail
   refine hp.out.mono ?_;rintro e w' ⟨rfl,rfl⟩;go_wp2_with fail
   refine hcall.out.mono ?_;rintro e w2 ⟨rfl,hD2,hk2⟩;replace hk2:=Lib.hid hk2;go_wp2_with fail
   go_ret
   exact⟨rfl,.of (hk2.out.mono (fun k _ e=>e ▸ hdF)) hD2⟩
  ·have hR:s.dirsync=({ s.burn with last:=s.burn.names,chg:=[] },0):=by unfold Dsk.dirsync;rw[if_neg (by rw[ho];decide)];exact if_neg (by rw[hb];decide)
   rw[hR];clear hR;rw[hb] at hcall;simp only[errB] at hcall;replace hcall:=Lib.hid hcall;replace ho:=Lib.hid ho;replace hb:=Lib.hid hb
   go_enter Tryz.func29,Tryz.ntmps29
   go_wp2_with fail
   refine hp.out.mono ?_;rintro e w' ⟨rfl,rfl⟩;go_wp2_with fail
   refine hcall.out.mono ?_;rintro e w2 ⟨rfl,hD2,hk2⟩;have b1:=hD2.box.cell 1;have hcl:=Clone_any hD2.names;replace hcl:=Lib.hid hcl;replace hk2:=Lib.hid hk2;go_wp2_with fail
   refine hcl.out.mono ?_;rintro e w3 ⟨rfl,hm3,hb3,hlt3⟩;have hdl:=hD2.lt;have hbx:=hD2.box.below hb3 hdl;have b2:=hbx.cell 2;have b3:=hbx.cell 3;have g2:=hbx.frozen 2;have g3:=hbx.frozen 3;replace hb3:=Lib.hid hb3;replace hm3:=Lib.hid hm3
   have hk4:=((KeptBut.refl w3 (fun k=>k=d)).then_set (b:=d) (o:=2) (v:=.map (some w2.heap.size)) rfl).then_set (b:=d) (o:=3) (v:=.slice none 0 0) rfl
   have hset:=hD2.resync hm3.out hb3.out hlt3 hk4 (by simpa using (hbx.set_ 2 (.map (some w2.heap.size))).set_ 3 (.slice none 0 0));replace hset:=Lib.hid hset;have hs2:=hk2.out.size;clear hk4;go_wp2_with fail
   go_ret
   exact⟨rfl,(hk2.out.mono (fun k _ e=>e ▸ hdF)).trans hset.out.2 (fun k _ e=>e),_,hset.out.1.more (fun k hk=>hk.elim .inl (fun e=>.inr ⟨by omega,e.2⟩))⟩
end Go.Proofs.YtlpojfgeocpkeaaGreatDoor
