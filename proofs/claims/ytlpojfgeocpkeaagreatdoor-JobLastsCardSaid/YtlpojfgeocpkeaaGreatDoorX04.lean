/- Rows of bytes: one byte set, the end cut off. What a crash turns of a tail: byte by byte. -/
import Derived.Test.YtlpojfgeocpkeaaGreatDoorX03
import Derived.Laws.BitsAllLaws
namespace Go.Proofs.YtlpojfgeocpkeaaGreatDoor
open Go.RowKit
set_option linter.unusedVariables false
set_option linter.unusedSimpArgs false
theorem OwnB.cut {w:World}{base:Nat}{A:Option Addr}{n cap:Nat}{l:List UInt8}(h:OwnB w base (.slice A n cap) l){m:Nat}(hm:m≤l.length):OwnB w base (.slice A m cap) (l.take m)∨(A=none∧l=[]):=by
 obtain⟨h1,h2⟩:=h;rcases h2 with⟨hv,hn⟩ | ⟨g,cap',cur,hv,hb,hg,hnc,hcm,hcs,ht⟩
 ·right
  injection hv with hv;exact⟨hv,List.eq_nil_of_length_eq_zero (by simpa using hn)⟩
 ·left
  injection hv with e1 e2 e3;subst e1 e2 e3;refine⟨by simp[List.length_take],.inr ⟨g,cap,cur,by rw[List.length_take,Nat.min_eq_left hm],hb,hg,by rw[List.length_take,Nat.min_eq_left hm];omega,hcm,hcs,?_⟩⟩;simp only[Nat.mul_one] at ht ⊢;rw[List.length_take,Nat.min_eq_left hm,List.map_take,←ht,List.take_take,Nat.min_eq_left hm]
theorem OwnB.setAt {w:World}{base g cap:Nat}{l:List UInt8}(h:OwnB w base (.slice (some ⟨g,0,none⟩) l.length cap) l){i:Nat}(hi:i<l.length)(c:UInt8):OwnB (w.setCell ⟨g,i,none⟩ (B8 c)) base (.slice (some ⟨g,0,none⟩) l.length cap) (l.set i c):=by
 obtain⟨h1,h2⟩:=h;rcases h2 with⟨hv,hn⟩ | ⟨g',cap',cur,hv,hb,hg,hnc,hcm,hcs,ht⟩
 ·cases hv
 ·injection hv with e1 e2 e3;injection e1 with e1;injection e1 with e1;subst e1 e3;refine⟨by simp,.inr ⟨g,cap,cur.setIfInBounds i (B8 c),by simp,hb,?_,by simpa using hnc,hcm,by simpa using hcs,?_⟩⟩
  ·simp[World.setCell,Array.getElem?_modify,hg]
  ·simp only[Nat.mul_one,List.length_set] at ht ⊢;rw[Array.toList_setIfInBounds,List.take_set,ht,List.map_set]
theorem OwnB.cellAt {w:World}{base g n cap:Nat}{l:List UInt8}(h:OwnB w base (.slice (some ⟨g,0,none⟩) n cap) l){i:Nat}(hi:i<l.length):w.cell? ⟨g,i,none⟩=some (B8 (l[i]))∧w.frozen? ⟨g,i,none⟩=false:=by
 obtain⟨h1,h2⟩:=h;rcases h2 with⟨hv,hn⟩ | ⟨g',cap',cur,hv,hb,hg,hnc,hcm,hcs,ht⟩
 ·cases hv
 ·injection hv with e1 e2 e3;injection e1 with e1;injection e1 with e1;subst e1;simp only[Nat.mul_one] at ht
  have hc:cur[i]? = some (B8 l[i]):=by
   have h3:(cur.toList.take l.length)[i]? = (l.map B8)[i]? := by rw[ht]
   rw[List.getElem?_take_of_lt hi,List.getElem?_map,List.getElem?_eq_getElem hi] at h3
   simpa using h3
  refine⟨(cell_of_row w g i cur _ (0,0) hg).trans hc,?_⟩;exact Blk.frozen (show Blk w g _ cur from hg) i
theorem at_eq (sa:Int)(q:Nat)(h0:0<q)(hq:q≤1048576):(wrap64 (sa.tmod q+q)).tmod q=((sa % (q:Int)).toNat:Nat):=by
 have h1:-(q:Int)<sa.tmod q:=by
  have:=Int.lt_tmod_of_pos sa (b:=(q:Int)) (by omega);omega
 have h2:sa.tmod q<q:=Int.tmod_lt_of_pos sa (by omega)
 have hw:wrap64 (sa.tmod q+q)=sa.tmod q+q:=by
  unfold wrap64;omega
 rw[hw,Int.tmod_eq_emod_of_nonneg (by omega)]
 have h3:(sa.tmod q+q) % (q:Int)=sa % q:=by
  rw[Int.add_emod_right,Int.tmod_def]
  have:sa-q*sa.tdiv q=sa+q*(-(sa.tdiv q)):=by rw[Int.mul_neg];omega
  rw[this,Int.add_mul_emod_self_left]
 rw[h3];have:=Int.emod_nonneg sa (b:=(q:Int)) (by omega);omega
theorem xorAt_mid (A l B:List UInt8)(j:Nat)(m:UInt8)(h:j<l.length):xorAt (A++l++B) (A.length+j) m=A++xorAt l j m++B:=by
 rw[xorAt_some m (by simp;omega),xorAt_some m h]
 have e:(A++l++B)[A.length+j]'(by simp;omega)=l[j]:=by
  rw[List.getElem_append_left (by simp;omega),List.getElem_append_right (by omega)];simp
 rw[e,List.set_append_left _ _ (by simp;omega),List.set_append_right _ _ (by omega)];simp
def SPk (l:List UInt8)(a sm j:Nat):List UInt8:=(List.range j).foldl (fun l i=>xorAt l (a+i) (UInt8.ofNat (sm / 2 ^ (8*i)))) l
theorem SPk_zero (l:List UInt8)(a sm:Nat):SPk l a sm 0=l:=rfl
theorem SPk_succ (l:List UInt8)(a sm j:Nat):SPk l a sm (j+1)=xorAt (SPk l a sm j) (a+j) (UInt8.ofNat (sm / 2 ^ (8*j))):=by
 unfold SPk;rw[List.range_succ,List.foldl_append];rfl
theorem SPk_len (l:List UInt8)(a sm:Nat):∀j,(SPk l a sm j).length=l.length
 | 0=>rfl
 | j+1=>by rw[SPk_succ,xorAt_len,SPk_len l a sm j]
def SPA (d:List UInt8)(k q a sm j:Nat):List UInt8:=d.take k++SPk ((d.drop k).take q) a sm j++d.drop (k+q)
theorem SPA_zero (d:List UInt8)(k q a sm:Nat):SPA d k q a sm 0=d:=by
 unfold SPA;rw[SPk_zero,List.append_assoc,←List.drop_drop,List.take_append_drop,List.take_append_drop]
theorem SPA_len {d:List UInt8}{k q:Nat}(h:k+q≤d.length)(a sm j:Nat):(SPA d k q a sm j).length=d.length:=by
 unfold SPA;rw[List.length_append,List.length_append,SPk_len,List.length_take,List.length_take,List.length_drop,List.length_drop];omega
theorem SPA_take {d:List UInt8}{k q:Nat}(h:k+q≤d.length)(a sm j:Nat):(SPA d k q a sm j).take (k+q)=d.take k++SPk ((d.drop k).take q) a sm j:=by
 unfold SPA;rw[List.take_append_of_le_length (by rw[List.length_append,SPk_len,List.length_take,List.length_take,List.length_drop];omega)];exact List.take_of_length_le (by rw[List.length_append,SPk_len,List.length_take,List.length_take,List.length_drop];omega)
theorem SPA_at {d:List UInt8}{k q a sm j:Nat}(h:k+q≤d.length)(hj:a+j<q):k+(a+j)<(SPA d k q a sm j).length:=by rw[SPA_len h];omega
theorem SPA_succ {d:List UInt8}{k q a sm j:Nat}(h:k+q≤d.length)(hj:a+j<q):(SPA d k q a sm j).set (k+(a+j)) ((SPA d k q a sm j)[k+(a+j)]'(SPA_at h hj) ^^^ UInt8.ofNat (sm / 2 ^ (8*j)))=SPA d k q a sm (j+1):=by
 have e:=xorAt_mid (d.take k) (SPk ((d.drop k).take q) a sm j) (d.drop (k+q)) (a+j) (UInt8.ofNat (sm / 2 ^ (8*j))) (by rw[SPk_len,List.length_take,List.length_drop];omega);rw[show (d.take k).length=k from by rw[List.length_take];omega] at e;have e2:=xorAt_some (l:=SPA d k q a sm j) (UInt8.ofNat (sm / 2 ^ (8*j))) (SPA_at h hj);rw[←e2];unfold SPA;rw[SPk_succ];exact e
theorem tailC_spoil {c:Cra}{k q a sm:Nat}{sa:Int}{t:List UInt8}(hk:keepN c k t.length=q)(hl:(t.take q).length=q)(h0:0<q)(hs:c.spoil[k]? = some (sa,sm))(ha:(sa % (q:Int)).toNat=a):tailC c k t=SPk (t.take q) a sm (min 4 (q-a)):=by
 unfold tailC;simp only[];rw[hk,if_neg (by rw[List.isEmpty_iff];intro h;rw[h] at hl;simp at hl;omega),hs];show spoilT (t.take q) sa sm=_;unfold spoilT SPk;simp only[];rw[hl,ha]
theorem SPA_step {w:World}{g cap k q a sm j:Nat}{d:List UInt8}(h:k+q≤d.length)(ho:OwnB w 0 (.slice (some ⟨g,0,none⟩) d.length cap) (SPA d k q a sm j))(hj:a+j<q) :
  ∃x:UInt8,w.cell? ⟨g,k+(a+j),none⟩=some (B8 x)∧w.frozen? ⟨g,k+(a+j),none⟩=false ∧
   OwnB (w.setCell ⟨g,k+(a+j),none⟩ (B8 (x ^^^ UInt8.ofNat (sm / 2 ^ (8*j))))) 0 (.slice (some ⟨g,0,none⟩) d.length cap) (SPA d k q a sm (j+1)):=by
 have hat:=SPA_at (sm:=sm) h hj;obtain⟨c1,c2⟩:=ho.cellAt hat;refine⟨_,c1,c2,?_⟩;have hl:=SPA_len h a sm j;rw[←SPA_succ h hj];rw[←hl] at ho ⊢;exact ho.setAt hat _
theorem xor_val (x:UInt8)(sm j:Nat)(hs:sm<4294967296)(hj:j<4):((x ^^^ UInt8.ofNat (sm / 2 ^ (8*j))).toNat:Int)=((x.toNat ^^^ (sm / 2 ^ (8*j)) % 256:Nat):Int):=by
 rw[UInt8.toNat_xor,UInt8.toNat_ofNat']
theorem xor_bits (x:UInt8)(sm j:Nat)(hs:sm<4294967296)(hj:j<4):bits .xor .u8 (x.toNat:Int) ((sm:Int) / 2 ^ (8*j) % 256)=((x ^^^ UInt8.ofNat (sm / 2 ^ (8*j))).toNat:Int):=by
 have e:((sm / 2 ^ (8*j) % 256:Nat):Int)=(sm:Int) / 2 ^ (8*j) % 256:=by
  rw[Int.natCast_emod,Int.natCast_ediv,Int.natCast_pow];rfl
 rw[xor_val x sm j hs hj,←u8_xor_nat x.toNat (sm / 2 ^ (8*j) % 256) (UInt8.toNat_lt x) (Nat.mod_lt _ (by omega)),e]
theorem plain_add {w:World}{a:Addr}{v:Value}(h:w.cell? (a.add 0)=some v):∃b o,a=⟨b,o,none⟩:=by
 obtain⟨b,o,s⟩:=a
 cases s with
 | none=>exact⟨b,o,rfl⟩
 | some s =>
  exfalso
  unfold Addr.add World.cell? at h
  split at h<;>(try split at h)<;>simp_all
theorem add_plain2 (b o n:Nat):(⟨b,o,none⟩:Addr).add n=⟨b,o+n,none⟩:=by unfold Addr.add;split<;>simp_all
end Go.Proofs.YtlpojfgeocpkeaaGreatDoor
