/- The plain layer of slices.SortStableFunc: what it leaves is in order, and the same elements. No program in sight. The plain layer of slices.SortStableFunc and slices.CompactFunc: lists. No program in sight. A row of entries in memory, as an array; its elements exchanged. Contracts: swapRange, rotate at entries. Contracts: merge.order. -/
import Derived.Test.YtlpojfgeocpkeaaGreatDoorX11
import Derived.Test.YtlpojfgeocpkeaaGreatDoorX01
import Derived.WalkKit
import Derived.WalkLawsBesides
import Derived.WalkSpells
import Derived.Outline
import Derived.LoopTactic
import Derived.RegionTactic
import Derived.BigRegion
import Derived.BigQuiet
import Derived.Deep.QuietTactic
import Derived.Lib.Hide
namespace Go.Proofs.YtlpojfgeocpkeaaGreatDoor
open Go.Sort
set_option linter.unusedVariables false
set_option linter.unusedSimpArgs false
section
variable {α:Type}[Inhabited α]{lt:α→α→Bool}
theorem symR_get {a m b s:Nat}{d:Array α}(h1:s≤m)(h2:s≤(a+b) / 2)(h3:(a+b) / 2+m-s≤d.size)(t:Nat) :
  (symR a m b d s)[t]! = if s≤t∧t<(a+b) / 2 then d[t+(m-s)]! else if (a+b) / 2≤t∧t<(a+b) / 2+m-s then d[t-((a+b) / 2-s)]! else d[t]! := by
 unfold symR;split
 ·rw[rotG_get m _ _ _ _ (by omega) (by omega) (by omega) (by omega) (by omega)]
  (repeat' split)<;>first | rfl | (exfalso;omega) | (congr 1;omega)
 ·(repeat' split)<;>first | rfl | (exfalso;omega) | (congr 1;omega)
theorem symR_perm {a m b s lo hi:Nat}{d:Array α}(h1:lo≤s)(h2:(a+b) / 2+m-s≤hi)(h3:hi≤d.size):PermIn lo hi d (symR a m b d s):=by
 unfold symR;split
 ·exact rotG_perm m lo hi _ _ _ _ (by omega) (by omega) (by omega) (by omega) (by omega) h3
 ·exact permIn_refl _ _ _
theorem symM_perm:∀(f a m b:Nat) (d:Array α),a<m→m<b→b≤d.size→PermIn a b d (symM lt f a m b d)
 | 0,a,m,b,d,_,_,_=>permIn_refl _ _ _
 | f+1,a,m,b,d,h1,h2,h3=>by
  unfold symM;split
  ·obtain⟨g1,g2,_,_⟩:=srch_spec (fun h=>lt d[h]! d[a]!) _ m b rfl (by omega);exact upG_perm a b _ _ _ (Nat.le_refl _) (by omega) h3
  split
  ·obtain⟨g1,g2,_,_⟩:=srch_spec (fun h=>!lt d[m]! d[h]!) _ a m rfl (by omega);exact dnG_perm _ a b _ _ g1 (by omega) h3
  obtain⟨e1,e2,e3,e4,e5,e6,e7,e8,_,_⟩:=symS_spec (lt:=lt) a m b d h1 h2;simp only at e3 e4 e5 e6 e7 e8 ⊢
  generalize symS lt a m b d=s at *
  have p1:PermIn a b d (symR a m b d s):=symR_perm e1 e5 h3;have z1:=symR_size a m b d s
  generalize symR a m b d s=d1 at *
  have p2:PermIn a b d1 (if a<s∧s<(a+b) / 2 then symM lt f a s ((a+b) / 2) d1 else d1):=by
   split
   ·rename_i hc
    exact permIn_mono _ _ _ _ _ _ (Nat.le_refl _) (by omega) (by omega) (symM_perm f a s ((a+b) / 2) d1 hc.1 hc.2 (by omega))
   ·exact permIn_refl _ _ _
  have z2:(if a<s∧s<(a+b) / 2 then symM lt f a s ((a+b) / 2) d1 else d1).size=d.size:=by rw[p2.1,z1]
  generalize (if a<s∧s<(a+b) / 2 then symM lt f a s ((a+b) / 2) d1 else d1)=d2 at *
  refine permIn_trans _ _ _ _ _ (permIn_trans _ _ _ _ _ p1 p2) ?_;split
  ·rename_i hc
   exact permIn_mono _ _ _ _ _ _ (by omega) (Nat.le_refl _) (by omega) (symM_perm f ((a+b) / 2) ((a+b) / 2+m-s) b d2 hc.1 hc.2 (by omega))
  ·exact permIn_refl _ _ _
theorem sle (hS:SWO lt){a b:Nat}{d:Array α}(h:SortedIn lt a b d){i j:Nat}(h1:a≤i)(h2:i≤j)(h3:j<b):lt d[j]! d[i]! = false:=by
 rcases Nat.lt_or_eq_of_le h2 with h | rfl
 ·exact (by assumption:SortedIn lt a b d) i j h1 h h3
 ·exact hS.irrefl _
theorem symM_sorted (hS:SWO lt):∀(f a m b:Nat) (d:Array α),b-a≤f→a<m→m<b→b≤d.size→SortedIn lt a m d→SortedIn lt m b d→SortedIn lt a b (symM lt f a m b d)
 | 0,a,m,b,d,h0,h1,h2,_,_,_=>by omega
 | f+1,a,m,b,d,h0,h1,h2,h3,hA,hB=>by
  unfold symM;split
  ·rename_i hm
   obtain⟨g1,g2,g3,g4⟩:=srch_spec (fun h=>lt d[h]! d[a]!) _ m b rfl (by omega)
   generalize srch (fun h=>lt d[h]! d[a]!) m b=i at *
   intro x y hx hxy hy;rw[upG_get _ _ _ (by omega),upG_get _ _ _ (by omega)]
   by_cases c1:y<i-1
   ·rw[if_pos (by omega),if_pos (by omega)];exact sle hS hB (by omega) (by omega) (by omega)
   ·by_cases c2:y=i-1
    ·rw[if_neg (by omega),if_pos (by omega),if_pos (by omega)];rcases g3 with g3 | g3
     ·omega
     ·exact hS.ntrans _ _ _ (hS.asymmA g3) (sle hS hB (i:=x+1) (j:=i-1) (by omega) (by omega) (by omega))
    ·rw[if_neg (by omega),if_neg (by omega)]
     by_cases c3:x<i-1
     ·rw[if_pos (by omega)];exact sle hS hB (by omega) (by omega) (by omega)
     ·by_cases c4:x=i-1
      ·rw[if_neg (by omega),if_pos (by omega)];rcases g4 with g4 | g4
       ·omega
       ·exact hS.ntrans _ _ _ (sle hS hB (i:=i) (j:=y) (by omega) (by omega) (by omega)) (by simpa using g4)
      ·rw[if_neg (by omega),if_neg (by omega)];exact sle hS hB (by omega) (by omega) (by omega)
  split
  ·rename_i hm
   obtain⟨g1,g2,g3,g4⟩:=srch_spec (fun h=>!lt d[m]! d[h]!) _ a m rfl (by omega)
   generalize srch (fun h=>!lt d[m]! d[h]!) a m=i at *
   intro x y hx hxy hy;rw[dnG_get _ _ _ (by omega),dnG_get _ _ _ (by omega)];rw[show i+(m-i)=m by omega]
   by_cases c1:y<i
   ·rw[if_neg (by omega),if_neg (by omega),if_neg (by omega),if_neg (by omega)];exact sle hS hA (by omega) (by omega) (by omega)
   ·by_cases c2:y=i
    ·rw[if_neg (by omega),if_pos (by omega),if_neg (by omega),if_neg (by omega)];rcases g3 with g3 | g3
     ·omega
     ·exact hS.ntrans _ _ _ (by simpa using g3) (sle hS hA (i:=x) (j:=i-1) (by omega) (by omega) (by omega))
    ·rw[if_pos (by omega)]
     by_cases c3:x<i
     ·rw[if_neg (by omega),if_neg (by omega)];exact sle hS hA (by omega) (by omega) (by omega)
     ·by_cases c4:x=i
      ·rw[if_neg (by omega),if_pos (by omega)];rcases g4 with g4 | g4
       ·omega
       ·exact hS.ntrans _ _ _ (sle hS hA (i:=i) (j:=y-1) (by omega) (by omega) (by omega)) (hS.asymmA (by simpa using g4))
      ·rw[if_pos (by omega)];exact sle hS hA (by omega) (by omega) (by omega)
  rename_i hm1 hm2
  obtain⟨e1,e2,e3,e4,e5,e6,e7,e8,e9,e10⟩:=symS_spec (lt:=lt) a m b d h1 h2;simp only at e3 e4 e5 e6 e7 e8 e9 e10 ⊢
  generalize symS lt a m b d=s at *
  have g:=fun t=>symR_get (a:=a) (b:=b) (m:=m) (s:=s) (d:=d) e2 e3 (by omega) t;have z1:=symR_size a m b d s
  generalize symR a m b d s=d1 at *
  obtain⟨mid,hmid,hm3⟩:∃mid,(a+b) / 2=mid∧2*mid≤a+b∧a+b≤2*mid+1:=⟨_,rfl,by omega,by omega⟩;simp only[hmid] at g e3 e4 e5 e6 e7 e8 e9 e10 ⊢;obtain⟨e,he,he2⟩:∃e,mid+m-s=e∧e+s=mid+m:=⟨_,rfl,by omega⟩;simp only[he] at g e4 e5 e6 e7 e8 e9 e10 ⊢
  have hlo:a<mid:=by omega
  have hhi:mid<b:=by omega
  have cross:∀x y,a≤x→x<mid→mid≤y→y<b→lt d1[y]! d1[x]! = false:=by
   intro x y h4 h5 h6 h7;rw[g,g];rw[if_neg (by omega)]
   by_cases c1:y<e
   ·rw[if_pos (by omega)]
    by_cases c2:s≤x
    ·rw[if_pos (by omega)];rcases e10 with q | q | q
     ·omega
     ·omega
     ·exact hS.ntrans _ _ _ (sle hS hA (i:=s) (j:=y-(mid-s)) (by omega) (by omega) (by omega)) (hS.ntrans _ _ _ (hS.asymmA q) (sle hS hB (i:=x+(m-s)) (j:=e-1) (by omega) (by omega) (by omega)))
    ·rw[if_neg (by omega),if_neg (by omega)];exact sle hS hA (by omega) (by omega) (by omega)
   ·rw[if_neg (by omega)]
    by_cases c2:s≤x
    ·rw[if_pos (by omega)];exact sle hS hB (by omega) (by omega) (by omega)
    ·rw[if_neg (by omega),if_neg (by omega)];rcases e9 with q | q | q
     ·omega
     ·omega
     ·exact hS.ntrans _ _ _ (sle hS hB (i:=e) (j:=y) (by omega) (by omega) (by omega)) (hS.ntrans _ _ _ q (sle hS hA (i:=x) (j:=s-1) (by omega) (by omega) (by omega)))
  have l1:SortedIn lt a s d1:=fun x y h4 h5 h6=>by
   rw[g,g,if_neg (by omega),if_neg (by omega),if_neg (by omega),if_neg (by omega)];exact sle hS hA (by omega) (by omega) (by omega)
  have l2:SortedIn lt s mid d1:=fun x y h4 h5 h6=>by
   rw[g,g,if_pos (by omega),if_pos (by omega)];exact sle hS hB (by omega) (by omega) (by omega)
  have r1:SortedIn lt mid e d1:=fun x y h4 h5 h6=>by
   rw[g,g,if_neg (by omega),if_pos (by omega),if_neg (by omega),if_pos (by omega)];exact sle hS hA (by omega) (by omega) (by omega)
  have r2:SortedIn lt e b d1:=fun x y h4 h5 h6=>by
   rw[g,g,if_neg (by omega),if_neg (by omega),if_neg (by omega),if_neg (by omega)];exact sle hS hB (by omega) (by omega) (by omega)
  clear g
  obtain⟨d2,hd2⟩:∃d2,(if a<s∧s<mid then symM lt f a s mid d1 else d1)=d2:=⟨_,rfl⟩
  rw[hd2]
  have left:PermIn a mid d1 d2∧SortedIn lt a mid d2:=by
   rw[←hd2];split
   ·rename_i hc
    exact⟨symM_perm f a s mid d1 hc.1 hc.2 (by omega),symM_sorted hS f a s mid d1 (by omega) hc.1 hc.2 (by omega) l1 l2⟩
   ·rename_i hc
    refine⟨permIn_refl _ _ _,?_⟩
    by_cases q:a<s
    ·have:s=mid:=by omega
     rw[←this];exact l1
    ·have:a=s:=by omega
     rw[this];exact l2
  have z2:d2.size=d.size:=by rw[left.1.1,z1]
  have far:∀t,mid≤t→d2[t]! = d1[t]! := fun t ht=>left.1.2.1 t (.inr ht)
  have cross2:∀x y,a≤x→x<mid→mid≤y→y<b→lt d2[y]! d2[x]! = false:=by
   intro x y h4 h5 h6 h7;have:=permIn_all d1 d2 a mid (fun v=>∀y,mid≤y→y<b→lt d1[y]! v=false) (by omega) left.1 (fun i q1 q2 y q3 q4=>cross i y q1 q2 q3 q4) x h4 h5 y h6 h7;rw[far y h6];exact this
  have r1':SortedIn lt mid e d2:=fun x y h4 h5 h6=>by rw[far x h4,far y (by omega)];exact r1 x y h4 h5 h6
  have r2':SortedIn lt e b d2:=fun x y h4 h5 h6=>by rw[far x (by omega),far y (by omega)];exact r2 x y h4 h5 h6
  obtain⟨d3,hd3⟩:∃d3,(if mid<e∧e<b then symM lt f mid e b d2 else d2)=d3:=⟨_,rfl⟩
  rw[hd3]
  have right:PermIn mid b d2 d3∧SortedIn lt mid b d3:=by
   rw[←hd3];split
   ·rename_i hc
    exact⟨symM_perm f mid e b d2 hc.1 hc.2 (by omega),symM_sorted hS f mid e b d2 (by omega) hc.1 hc.2 (by omega) r1' r2'⟩
   ·rename_i hc
    refine⟨permIn_refl _ _ _,?_⟩
    by_cases q:mid<e
    ·have:e=b:=by omega
     rw[←this];exact r1'
    ·have:e=mid:=by omega
     rw[←this];exact r2'
  have near:∀t,t<mid→d3[t]! = d2[t]! := fun t ht=>right.1.2.1 t (.inl ht);intro x y h4 h5 h6
  by_cases c1:y<mid
  ·rw[near x (by omega),near y c1];exact left.2 x y h4 h5 c1
  ·by_cases c2:mid≤x
   ·exact right.2 x y c2 h5 h6
   ·have:=permIn_all d2 d3 mid b (fun v=>lt v d2[x]! = false) (by omega) right.1 (fun i q1 q2=>cross2 x i h4 (by omega) q1 q2) y (by omega) h6;rw[near x (by omega)];exact this
def insB (lt:α→α→Bool)(n:Nat):Nat→Nat→Array α→Array α
 | 0,a,d=>insertionSort lt d a n
 | f+1,a,d=>if a+20≤n then insB lt n f (a+20) (insertionSort lt d a (a+20)) else insertionSort lt d a n
def mrgB (lt:α→α→Bool)(n z:Nat):Nat→Nat→Array α→Array α
 | 0,a,d=>if a+z<n then symM lt n a (a+z) n d else d
 | f+1,a,d=>if a+2*z≤n then mrgB lt n z f (a+2*z) (symM lt n a (a+z) (a+2*z) d) else if a+z<n then symM lt n a (a+z) n d else d
def stbG (lt:α→α→Bool)(n:Nat):Nat→Nat→Array α→Array α
 | 0,_,d=>d
 | f+1,z,d=>if z<n then stbG lt n f (z*2) (mrgB lt n z n 0 d) else d
def stableA (lt:α→α→Bool)(d:Array α):Array α:=stbG lt d.size d.size 20 (insB lt d.size d.size 0 d)
def BlkS (lt:α→α→Bool)(z n:Nat)(d:Array α):Prop:=∀k,SortedIn lt (k*z) (min ((k+1)*z) n) d
theorem ssame {a b:Nat}{d d':Array α}(h:SortedIn lt a b d)(he:∀t,a≤t→t<b→d'[t]! = d[t]!):SortedIn lt a b d':=fun x y h1 h2 h3=>by
 rw[he x h1 (by omega),he y (by omega) h3];exact h x y h1 h2 h3
theorem sless {a b a' b':Nat}{d:Array α}(h:SortedIn lt a b d)(h1:a≤a')(h2:b'≤b):SortedIn lt a' b' d:=fun x y h3 h4 h5=>h x y (by omega) h4 (by omega)
theorem insB_spec (hS:SWO lt)(n:Nat):∀(f q:Nat) (d:Array α),d.size=n→q*20≤n→n<(q+f)*20+20→(∀k,k<q→SortedIn lt (k*20) ((k+1)*20) d) →
  PermIn 0 n d (insB lt n f (q*20) d)∧BlkS lt 20 n (insB lt n f (q*20) d):=by
 have last:∀(q:Nat) (d:Array α),d.size=n→q*20≤n→n<(q+1)*20→(∀k,k<q→SortedIn lt (k*20) ((k+1)*20) d)→PermIn 0 n d (insertionSort lt d (q*20) n)∧BlkS lt 20 n (insertionSort lt d (q*20) n):=by
  intro q d hz hq hn hk;obtain⟨h1,h2⟩:=insertionSort_holds (lt:=lt) hS d (q*20) n hq (by omega);refine⟨permIn_mono _ _ _ _ _ _ (Nat.zero_le _) (Nat.le_refl _) (by omega) h1,fun k=>?_⟩;rcases Nat.lt_trichotomy k q with c | c | c
  ·refine (ssame (sless (hk k c) (Nat.le_refl _) (Nat.min_le_left _ _)) fun t h3 h4=>h1.2.1 t (.inl ?_));have:(k+1)*20≤q*20:=Nat.mul_le_mul_right _ c;omega
  ·rw[c];exact sless h2 (Nat.le_refl _) (Nat.min_le_right _ _)
  ·intro x y h3 h4 h5;have:(q+1)*20≤k*20:=Nat.mul_le_mul_right _ c;omega
 intro f
 induction f with
 | zero =>
  intro q d hz hq hn hk;unfold insB;exact last q d hz hq (by omega) hk
 | succ f ih =>
  intro q d hz hq hn hk;unfold insB;split
  ·rename_i hc
   obtain⟨h1,h2⟩:=insertionSort_holds (lt:=lt) hS d (q*20) (q*20+20) (by omega) (by omega)
   have hz':(insertionSort lt d (q*20) (q*20+20)).size=n:=by rw[h1.1,hz]
   have:=ih (q+1) _ hz' (by omega) (by omega) (fun k hk2=>by
    rcases Nat.lt_or_eq_of_le (Nat.le_of_lt_succ hk2) with c | c
    ·refine (ssame (hk k c) fun t h3 h4=>h1.2.1 t (.inl ?_));have:(k+1)*20≤q*20:=Nat.mul_le_mul_right _ c;omega
    ·rw[c,show (q+1)*20=q*20+20 by omega]
     exact h2)
   rw[show (q+1)*20=q*20+20 by omega] at this;exact⟨permIn_trans _ _ _ _ _ (permIn_mono _ _ _ _ _ _ (Nat.zero_le _) (by omega) (by omega) h1) this.1,this.2⟩
  ·exact last q d hz hq (by omega) hk
end
section
variable {α:Type}[Inhabited α]{lt:α→α→Bool}
theorem mrgB_spec (hS:SWO lt)(n z:Nat)(hz:0<z):∀(f q:Nat) (d:Array α),d.size=n→n<(q+f)*(2*z)+2*z→(∀k,k<q→SortedIn lt (k*(2*z)) ((k+1)*(2*z)) d)→q*(2*z)≤n →
  (∀k,2*q≤k→SortedIn lt (k*z) (min ((k+1)*z) n) d)→PermIn 0 n d (mrgB lt n z f (q*(2*z)) d)∧BlkS lt (2*z) n (mrgB lt n z f (q*(2*z)) d):=by
 have tail:∀(q:Nat) (d:Array α),d.size=n→n<q*(2*z)+2*z→(∀k,k<q→SortedIn lt (k*(2*z)) ((k+1)*(2*z)) d)→q*(2*z)≤n →
   (∀k,2*q≤k→SortedIn lt (k*z) (min ((k+1)*z) n) d)→PermIn 0 n d (if q*(2*z)+z<n then symM lt n (q*(2*z)) (q*(2*z)+z) n d else d)∧BlkS lt (2*z) n (if q*(2*z)+z<n then symM lt n (q*(2*z)) (q*(2*z)+z) n d else d):=by
  intro q d hs hn hl hq hr
  have m1:2*q*z=q*(2*z):=by rw[Nat.mul_comm 2 q,Nat.mul_assoc]
  have m2:(2*q+1)*z=q*(2*z)+z:=by rw[Nat.succ_mul,m1]
  have m3:(2*q+1+1)*z=q*(2*z)+2*z:=by rw[Nat.succ_mul,m2];omega
  have r0:=hr (2*q) (Nat.le_refl _);have r1:=hr (2*q+1) (by omega);rw[m1,m2] at r0;rw[m2,m3] at r1
  have far:∀k,q<k→q*(2*z)+2*z≤k*(2*z):=fun k hk=>by
   have:=Nat.mul_le_mul_right (2*z) (show q+1≤k from hk)
   rwa [Nat.succ_mul] at this
  have near:∀k,k<q→(k+1)*(2*z)≤q*(2*z):=fun k hk=>Nat.mul_le_mul_right (2*z) hk;have ms:(q+1)*(2*z)=q*(2*z)+2*z:=Nat.succ_mul _ _
  generalize hA:q*(2*z)=A at *
  split
  ·rename_i hc
   have hp:=symM_perm (lt:=lt) n A (A+z) n d (by omega) hc (by omega);have hso:=symM_sorted hS n A (A+z) n d (by omega) (by omega) hc (by omega) (sless r0 (Nat.le_refl _) (by omega)) (sless r1 (Nat.le_refl _) (by omega));refine⟨permIn_mono _ _ _ _ _ _ (Nat.zero_le _) (Nat.le_refl _) (by omega) hp,fun k=>?_⟩;rcases Nat.lt_trichotomy k q with c | c | c
   ·exact (ssame (sless (hl k c) (Nat.le_refl _) (Nat.min_le_left _ _)) fun t h3 h4=>hp.2.1 t (.inl (by have:=near k c;omega)))
   ·intro x y h3 h4 h5;rw[c,hA] at h3;exact hso x y h3 h4 (by omega)
   ·intro x y h3 h4 h5;have:=far k c;omega
  ·rename_i hc
   refine⟨permIn_refl _ _ _,fun k=>?_⟩;rcases Nat.lt_trichotomy k q with c | c | c
   ·exact sless (hl k c) (Nat.le_refl _) (Nat.min_le_left _ _)
   ·intro x y h3 h4 h5;rw[c,hA] at h3;exact r0 x y h3 h4 (by omega)
   ·intro x y h3 h4 h5;have:=far k c;omega
 intro f
 induction f with
 | zero =>
  intro q d hs hn hl hq hr;unfold mrgB;exact tail q d hs (by simpa using hn) hl hq hr
 | succ f ih =>
  intro q d hs hn hl hq hr;unfold mrgB;split
  ·rename_i hc
   have m1:2*q*z=q*(2*z):=by rw[Nat.mul_comm 2 q,Nat.mul_assoc]
   have m2:(2*q+1)*z=q*(2*z)+z:=by rw[Nat.succ_mul,m1]
   have m3:(2*q+1+1)*z=q*(2*z)+2*z:=by rw[Nat.succ_mul,m2];omega
   have r0:=hr (2*q) (Nat.le_refl _);have r1:=hr (2*q+1) (by omega);rw[m1,m2] at r0;rw[m2,m3] at r1;have ms:(q+1)*(2*z)=q*(2*z)+2*z:=Nat.succ_mul _ _;have hp:=symM_perm (lt:=lt) n (q*(2*z)) (q*(2*z)+z) (q*(2*z)+2*z) d (by omega) (by omega) (by omega);have hso:=symM_sorted hS n (q*(2*z)) (q*(2*z)+z) (q*(2*z)+2*z) d (by omega) (by omega) (by omega) (by omega) (sless r0 (Nat.le_refl _) (by omega)) (sless r1 (Nat.le_refl _) (by omega))
   have hzz:(symM lt n (q*(2*z)) (q*(2*z)+z) (q*(2*z)+2*z) d).size=n:=by rw[hp.1,hs]
   have:=ih (q+1) _ hzz (by rw[show q+1+f=q+(f+1) by omega];exact hn) (fun k hk=>by
    rcases Nat.lt_or_eq_of_le (Nat.le_of_lt_succ hk) with c | c
    ·exact (ssame (hl k c) fun t h3 h4=>hp.2.1 t (.inl (by have:=Nat.mul_le_mul_right (2*z) (show k+1≤q from c);omega)))
    ·rw[c,ms];exact hso) (by omega) (fun k hk=>by
    have hk2:(2*q+1+1)*z≤k*z:=Nat.mul_le_mul_right z (by omega);rw[m3] at hk2
    exact (ssame (hr k (by omega)) fun t h3 h4=>hp.2.1 t (.inr (by omega))))
   rw[ms] at this;exact⟨permIn_trans _ _ _ _ _ (permIn_mono _ _ _ _ _ _ (Nat.zero_le _) (by omega) (by omega) hp) this.1,this.2⟩
  ·rename_i hc
   exact tail q d hs (by omega) hl hq hr
theorem stbG_spec (hS:SWO lt)(n:Nat):∀(f z:Nat) (d:Array α),0<z→d.size=n→n≤z+f→BlkS lt z n d→PermIn 0 n d (stbG lt n f z d)∧SortedIn lt 0 n (stbG lt n f z d)
 | 0,z,d,hz,hs,hn,hb=>by
  unfold stbG;refine⟨permIn_refl _ _ _,?_⟩;have:=hb 0;intro x y h1 h2 h3;exact this x y (by omega) h2 (by omega)
 | f+1,z,d,hz,hs,hn,hb=>by
  unfold stbG;split
  ·have h:=mrgB_spec (lt:=lt) hS n z hz n 0 d hs (by
    have:n*1≤n*(2*z):=Nat.mul_le_mul_left n (by omega);rw[Nat.zero_add]
    omega) (fun k hk=>by omega) (by omega) (fun k _=>hb k)
   rw[Nat.zero_mul] at h;have h2:=stbG_spec hS n f (z*2) (mrgB lt n z n 0 d) (by omega) (by rw[h.1.1,hs]) (by omega) (by rw[Nat.mul_comm];exact h.2);exact⟨permIn_trans _ _ _ _ _ h.1 h2.1,h2.2⟩
  ·refine⟨permIn_refl _ _ _,?_⟩;have:=hb 0;intro x y h1 h2 h3;exact this x y (by omega) h2 (by omega)
theorem stableA_spec (hS:SWO lt)(d:Array α):PermIn 0 d.size d (stableA lt d)∧SortedIn lt 0 d.size (stableA lt d):=by
 unfold stableA;have h:=insB_spec (lt:=lt) hS d.size d.size 0 d rfl (by omega) (by omega) (fun k hk=>by omega);rw[Nat.zero_mul] at h;have h2:=stbG_spec hS d.size d.size 20 (insB lt d.size d.size 0 d) (by omega) (by rw[h.1.1]) (by omega) h.2;exact⟨permIn_trans _ _ _ _ _ h.1 h2.1,h2.2⟩
def stableL (lt:α→α→Bool)(l:List α):List α:=(stableA lt l.toArray).toList
theorem stableL_perm (hS:SWO lt)(l:List α):(stableL lt l).Perm l:=by
 obtain⟨hsz,_,hperm⟩:=(stableA_spec hS l.toArray).1
 have e1:(stableA lt l.toArray).extract 0 l.toArray.size=stableA lt l.toArray:=by rw[←hsz];exact Array.extract_size
 rw[e1,Array.extract_size] at hperm;exact hperm
theorem stableL_sorted (hS:SWO lt)(l:List α):(stableL lt l).Pairwise fun x y=>lt y x=false:=by
 obtain⟨hP,hSo⟩:=stableA_spec hS l.toArray;unfold stableL;rw[List.pairwise_iff_getElem];intro i j hi hj hij
 have hi':i<(stableA lt l.toArray).size:=by simpa using hi
 have hj':j<(stableA lt l.toArray).size:=by simpa using hj
 have:=hSo i j (Nat.zero_le _) hij (by rw[←hP.1];exact hj');rw[getElem!_pos _ j hj',getElem!_pos _ i hi'] at this
 simpa using this
def compG (eq:α→α→Bool):α→List α→List α
 | _,[]=>[]
 | p,x::r=>if eq x p then compG eq x r else x::compG eq x r
def compL (eq:α→α→Bool):List α→List α
 | []=>[]
 | x::r=>x::compG eq x r
omit [Inhabited α] in
theorem compG_sub (eq:α→α→Bool):∀(r:List α) (p:α),(compG eq p r).Sublist r
 | [],_=>.slnil
 | x::r,p=>by
  unfold compG;split
  ·exact (compG_sub eq r x).trans (List.sublist_cons_self _ _)
  ·exact (compG_sub eq r x).cons_cons _
omit [Inhabited α] in
theorem compL_sub (eq:α→α→Bool)(l:List α):(compL eq l).Sublist l:=by
 cases l with
 | nil=>exact .slnil
 | cons x r=>exact (compG_sub eq r x).cons_cons _
omit [Inhabited α] in
theorem compG_strict (hS:SWO lt)(eq:α→α→Bool)(he:∀x p,eq x p=(!lt x p&&!lt p x)):∀(r:List α) (p:α),(p::r).Pairwise (fun x y=>lt y x=false)→(∀y∈compG eq p r,lt p y=true)∧(compG eq p r).Pairwise fun x y=>lt x y=true
 | [],p,_=>⟨fun y hy=>(by cases hy),.nil⟩
 | x::r,p,h=>by
  rw[List.pairwise_cons] at h;obtain⟨i1,i2⟩:=compG_strict hS eq he r x h.2;have hxp:=h.1 x (List.mem_cons_self ..);unfold compG;split
  ·rename_i hq
   rw[he] at hq;simp only[Bool.and_eq_true,Bool.not_eq_true'] at hq;refine⟨fun y hy=>?_,i2⟩;have h1:=i1 y hy
   cases hpy:lt p y with
   | true=>rfl
   | false =>
    have:=hS.ntrans x p y hq.1 hpy;rw[h1] at this;cases this
  ·rename_i hq
   rw[he] at hq
   have hpx:lt p x=true:=by
    cases hpx:lt p x with
    | true=>rfl
    | false=>rw[hxp,hpx] at hq;exact absurd rfl hq
   refine⟨fun y hy=>?_,List.pairwise_cons.2 ⟨i1,i2⟩⟩;rcases List.mem_cons.1 hy with rfl | hy
   ·exact hpx
   ·exact hS.trans _ _ _ hpx (i1 y hy)
omit [Inhabited α] in
theorem compL_strict (hS:SWO lt)(eq:α→α→Bool)(he:∀x p,eq x p=(!lt x p&&!lt p x))(l:List α)(h:l.Pairwise fun x y=>lt y x=false):(compL eq l).Pairwise fun x y=>lt x y=true:=by
 cases l with
 | nil=>exact .nil
 | cons x r =>
  obtain⟨h1,h2⟩:=compG_strict hS eq he r x h;exact List.pairwise_cons.2 ⟨h1,h2⟩
end
end Go.Proofs.YtlpojfgeocpkeaaGreatDoor
namespace Go.Proofs.YtlpojfgeocpkeaaGreatDoor
open Go.RowKit Go.Sort
set_option linter.unusedVariables false
set_option linter.unusedSimpArgs false
instance:Inhabited Ent:=⟨⟨[],[],0,false⟩⟩
structure SRow (w:World)(g cap:Nat)(d:Array Ent):Prop where
 le:d.size≤cap
 blk:∃cs:Array Value,Blk w g 46 cs∧cs.size=cap*4∧∀i,i<d.size→cs[i*4]? = some (.string (bs d[i]!.key))∧cs[i*4+1]? = some (.string (bs d[i]!.value))∧cs[i*4+2]? = some (.int .u64 (d[i]!.seq:Nat))∧cs[i*4+3]? = some (.bool d[i]!.gone)
section
variable {w w':World}{g cap:Nat}{d:Array Ent}
theorem SRow.lt (h:SRow w g cap d):g<w.heap.size:=by
 obtain⟨cs,hb,_⟩:=h.blk;exact hb.lt
theorem SRow.at_ (h:SRow w g cap d){i:Nat}(hi:i<d.size):w.cell? ⟨g,i*4,none⟩=some (.string (bs d[i]!.key))∧w.cell? ⟨g,i*4+1,none⟩=some (.string (bs d[i]!.value))∧w.cell? ⟨g,i*4+2,none⟩=some (.int .u64 (d[i]!.seq:Nat))∧w.cell? ⟨g,i*4+3,none⟩=some (.bool d[i]!.gone):=by
 obtain⟨cs,hb,_,hc⟩:=h.blk;obtain⟨h0,h1,h2,h3⟩:=hc i hi;exact⟨(hb.cell _).trans h0,(hb.cell _).trans h1,(hb.cell _).trans h2,(hb.cell _).trans h3⟩
theorem SRow.frz (h:SRow w g cap d)(i:Nat):w.frozen? ⟨g,i,none⟩=false:=by
 obtain⟨cs,hb,_⟩:=h.blk;exact hb.frozen i
theorem SRow.below {B:Nat}(h:SRow w g cap d)(hb:Below B w w')(hg:g<B):SRow w' g cap d:=by
 obtain⟨cs,h1,h2⟩:=h.blk;exact⟨h.le,cs,h1.below hb hg,h2⟩
def lay4 (w:World)(g i:Nat)(e:Ent):World:=(((w.setCell ⟨g,i*4,none⟩ (.string (bs e.key))).setCell ⟨g,i*4+1,none⟩ (.string (bs e.value))).setCell ⟨g,i*4+2,none⟩ (.int .u64 (e.seq:Nat))).setCell ⟨g,i*4+3,none⟩ (.bool e.gone)
theorem SRow.lay (h:SRow w g cap d)(i:Nat)(e:Ent):SRow (lay4 w g i e) g cap (d.setIfInBounds i e):=by
 obtain⟨cs,hb,hs,hc⟩:=h.blk;refine⟨by rw[Array.size_setIfInBounds];exact h.le,_,(((hb.set_ (i*4) _).set_ (i*4+1) _).set_ (i*4+2) _).set_ (i*4+3) _,by simp[hs],fun k hk=>?_⟩;rw[Array.size_setIfInBounds] at hk;obtain⟨h0,h1,h2,h3⟩:=hc k hk;have hcap:=h.le
 have g0:(d.setIfInBounds i e)[k]! = if k=i then e else d[k]! := by
  simp only[getElem!_def,Array.getElem?_setIfInBounds]
  by_cases hki:k=i
  ·subst hki;simp[hk]
  ·simp[Ne.symm hki,hki]
 rw[g0];simp only[Array.getElem?_setIfInBounds,Array.size_setIfInBounds]
 by_cases hki:k=i
 ·subst hki
  have e1:k*4+3<cs.size:=by omega
  refine⟨?_,?_,?_,?_⟩
  ·rw[if_neg (by omega),if_neg (by omega),if_neg (by omega),if_pos rfl,if_pos (by omega),if_pos rfl]
  ·rw[if_neg (by omega),if_neg (by omega),if_pos rfl,if_pos (by omega),if_pos rfl]
  ·rw[if_neg (by omega),if_pos rfl,if_pos (by omega),if_pos rfl]
  ·rw[if_pos rfl,if_pos (by omega),if_pos rfl]
 ·rw[if_neg hki];refine⟨?_,?_,?_,?_⟩
  ·rw[if_neg (by omega),if_neg (by omega),if_neg (by omega),if_neg (by omega)];exact h0
  ·rw[if_neg (by omega),if_neg (by omega),if_neg (by omega),if_neg (by omega)];exact h1
  ·rw[if_neg (by omega),if_neg (by omega),if_neg (by omega),if_neg (by omega)];exact h2
  ·rw[if_neg (by omega),if_neg (by omega),if_neg (by omega),if_neg (by omega)];exact h3
theorem KeptBut.lay4 {S:Nat→Prop}(h:KeptBut w w' S){i:Nat}{e:Ent}(hg:S g):KeptBut w (Go.Proofs.YtlpojfgeocpkeaaGreatDoor.lay4 w' g i e) S:=(((h.then_set hg).then_set hg).then_set hg).then_set hg
end
set_option maxRecDepth 100000 in
set_option maxHeartbeats 4000000 in
theorem SwapR_any {w:World}{g cap:Nat}{d:Array Ent}(h:SRow w g cap d)(a b n:Nat)(F:Value)(hab:a+n≤b)(hbn:b+n≤d.size)(hsz:d.size≤1000000) :
  Calls Tryz.prog 194 #[.slice (some ⟨g,0,none⟩) d.size cap,.int .i64 (a:Nat),.int .i64 (b:Nat),.int .i64 (n:Nat),F] w fun e w'=>e=.returned (.tuple #[])∧SRow w' g cap (swapR a b 0 n d)∧KeptBut w w' (fun k=>k=g):=by
 obtain⟨N,hN⟩:∃N,d.size=N:=⟨_,rfl⟩;rw[hN]
 go_enter Tryz.func194,Tryz.ntmps194
 go_wp2_with fail
 go_loopw [10] (fun iv wr=>∃(i:Nat) (dk:Array Ent),i≤n∧iv=.int .i64 (i:Nat)∧SRow wr g cap dk∧dk.size=N∧swapR a b i (n-i) dk=swapR a b 0 n d∧KeptBut w wr (fun k=>k=g)) (fun iv _=>n-(intOf iv).toNat)
 case atStart=>exact⟨0,d,Nat.zero_le _,rfl,h,hN,rfl,KeptBut.refl _ _⟩
 case round =>
  obtain⟨i,dk,hi,rfl,hr,hdk,heq,hkp⟩:=hrel
  by_cases hlt:i<n
  ·have hlt':(i:Int)<n:=by omega
   obtain⟨p0,p1,p2,p3⟩:=hr.at_ (i:=a+i) (by omega);obtain⟨q0,q1,q2,q3⟩:=hr.at_ (i:=b+i) (by omega);have hf:=hr.frz;have hgl:=hr.lt;replace heq:=Lib.hid heq;replace hkp:=Lib.hid hkp;replace hr:=Lib.hid hr
   have i1:(a:Int)+i<N:=by omega
   have i2:(b:Int)+i<N:=by omega
   have i3:((a:Int)+i).toNat=a+i:=by omega
   have i4:((b:Int)+i).toNat=b+i:=by omega
   go_wp2_with fail
   have hxc:=@Ext.cell;have hxf:=@Ext.frozen;refine wp_hide (fun Q0 hQ0=>?_);refine wp_region_line (fun w'=>∃x:Ext _,w'=x.w) [some false,some false,some false,some false,some true,some true,some true,some true,some false,some false,some false,some false,some false,some false,some false,some false,some false,some false,some false,some false,some false,none,none,none] 0 (by kernel_rfl) (by kernel_rfl) ⟨⟨_,(Below.refl _ _).drew⟩,rfl⟩ ?_;simp only[earlyL,tailL]
   repeat (first | ((with_reducible refine wpMix_p ?_);go_big_quiet_step (fail);refine wpQuiet_nil ?_) | ((with_reducible refine wpMix_e ?_);go_big_quiet_step ((first | fail));refine wpQuiet_nil ?_))
   refine wpMix_nil ?_;clear hxc hxf;intro wx hwx;obtain⟨x,hx⟩:=hwx;have hb:=x.below;rw[←hx] at hb;clear hx x;clear p0 p1 p2 p3 q0 q1 q2 q3 hf;have hrx:=hr.out.below hb hgl;have hglx:=hrx.lt;obtain⟨p0,p1,p2,p3⟩:=hrx.at_ (i:=a+i) (by omega);obtain⟨q0,q1,q2,q3⟩:=hrx.at_ (i:=b+i) (by omega);have hf:=hrx.frz;replace hrx:=Lib.hid hrx;replace hb:=Lib.hid hb;refine wpTail_step ?_;intro Q1 hQ1;go_wp2_with fail
   have hr1:=hrx.out.lay (a+i) dk[b+i]!;have hk1:KeptBut w (lay4 wx g (a+i) dk[b+i]!) (fun k=>k=g):=(hkp.out.trans (KeptBut.of_below hb.out) (fun _ _ h=>h)).lay4 rfl;unfold lay4 at hr1 hk1
   generalize (((wx.setCell ⟨g,(a+i)*4,none⟩ (.string (bs dk[b+i]!.key))).setCell ⟨g,(a+i)*4+1,none⟩ (.string (bs dk[b+i]!.value))).setCell ⟨g,(a+i)*4+2,none⟩ (.int .u64 (dk[b+i]!.seq:Nat))).setCell ⟨g,(a+i)*4+3,none⟩ (.bool dk[b+i]!.gone)=w1 at *
   refine hQ1 _ _ rfl (fun h=>absurd h (by decide)) ?_;clear hQ1 Q1 p0 p1 p2 p3 q0 q1 q2 q3 hf;have hglx:=hr1.lt;obtain⟨q0,q1,q2,q3⟩:=hr1.at_ (i:=b+i) (by rw[Array.size_setIfInBounds];omega);have hf:=hr1.frz;replace hr1:=Lib.hid hr1;replace hk1:=Lib.hid hk1;refine wpTail_step ?_;intro Q1 hQ1
   go_wp2_with (fail)
   refine hQ1 _ _ rfl (fun h=>absurd h (by decide)) ?_;clear hQ1 Q1;refine wpTail_step ?_;intro Q1 hQ1;go_wp2_with fail
   have hr2:=hr1.out.lay (b+i) dk[a+i]!;have hk2:KeptBut w (lay4 w1 g (b+i) dk[a+i]!) (fun k=>k=g):=hk1.out.lay4 rfl;unfold lay4 at hr2 hk2
   generalize (((w1.setCell ⟨g,(b+i)*4,none⟩ (.string (bs dk[a+i]!.key))).setCell ⟨g,(b+i)*4+1,none⟩ (.string (bs dk[a+i]!.value))).setCell ⟨g,(b+i)*4+2,none⟩ (.int .u64 (dk[a+i]!.seq:Nat))).setCell ⟨g,(b+i)*4+3,none⟩ (.bool dk[a+i]!.gone)=w2 at *
   refine hQ1 _ _ rfl (fun h=>absurd h (by decide)) ?_;clear hQ1 Q1 q0 q1 q2 q3 hf;refine wpTail_nil ?_;refine hQ0 _ _ ?_;clear hQ0 Q0;replace hr2:=Lib.hid hr2;replace hk2:=Lib.hid hk2;go_wp2_with fail
   exact⟨⟨i+1,swp dk (a+i) (b+i),by omega,by go_num,hr2.out,by rw[swp_size];exact hdk,by rw[←heq.out,show n-i=(n-(i+1))+1 by omega,swapR],hk2.out⟩,by simp[intOf];omega⟩
  ·obtain rfl:i=n:=by omega
   rw[Nat.sub_self,swapR] at heq;rw[heq] at hr;go_wp2_with fail
   go_end0
   exact⟨rfl,hr,hkp⟩
set_option maxRecDepth 100000 in
set_option maxHeartbeats 4000000 in
theorem Rot_any {w:World}{g cap:Nat}{d:Array Ent}(h:SRow w g cap d)(a m b:Nat)(F:Value)(ham:a<m)(hmb:m<b)(hb:b≤d.size)(hsz:d.size≤1000000) :
  Calls Tryz.prog 189 #[.slice (some ⟨g,0,none⟩) d.size cap,.int .i64 (a:Nat),.int .i64 (m:Nat),.int .i64 (b:Nat),F] w fun e w'=>e=.returned (.tuple #[])∧SRow w' g cap (rotG m (b-a) (m-a) (b-m) d)∧KeptBut w w' (fun k=>k=g):=by
 obtain⟨N,hN⟩:∃N,d.size=N:=⟨_,rfl⟩
 have hsw:=Lib.hid (fun (W:World) (dk:Array Ent) (hr:SRow W g cap dk) (hk:dk.size=N) (x y n:Nat) (h1:x+n≤y) (h2:y+n≤N)=>(by
  have:=SwapR_any hr x y n F h1 (by omega) (by omega);rw[hk] at this
  exact this:Calls Tryz.prog 194 #[.slice (some ⟨g,0,none⟩) N cap,.int .i64 (x:Nat),.int .i64 (y:Nat),.int .i64 (n:Nat),F] W fun e w'=>e=.returned (.tuple #[])∧SRow w' g cap (swapR x y 0 n dk)∧KeptBut W w' (fun k=>k=g)))
 obtain⟨res,hres⟩:∃res,rotG m (b-a) (m-a) (b-m) d=res:=⟨_,rfl⟩
 have e1:(m:Int)-a=(m-a:Nat):=by omega
 have e2:(b:Int)-m=(b-m:Nat):=by omega
 rw[hN,hres]
 go_enter Tryz.func189,Tryz.ntmps189
 go_wp2_with fail
 try rw[e1,e2]
 go_loopw [10,11] (fun iv jv wr=>∃(f i j:Nat) (dk:Array Ent),iv=.int .i64 (i:Nat)∧jv=.int .i64 (j:Nat)∧0<i∧0<j∧i+j≤f∧a+i≤m∧m+j≤b∧SRow wr g cap dk∧dk.size=N∧rotG m f i j dk=res∧KeptBut w wr (fun k=>k=g)) (fun iv jv _=>(intOf iv).toNat+(intOf jv).toNat)
 case atStart=>exact⟨b-a,m-a,b-m,d,rfl,rfl,by omega,by omega,by omega,by omega,by omega,h,hN,hres,KeptBut.refl _ _⟩
 case round =>
  obtain⟨f,i,j,dk,rfl,rfl,hi,hj,hf,hai,hbj,hr,hdk,heq,hkp⟩:=hrel;obtain⟨f,rfl⟩:∃f',f=f'+1:=⟨f-1,by omega⟩;unfold rotG at heq
  have m1:(m:Int)-i=(m-i:Nat):=by omega
  by_cases c1:i=j
  ·subst c1;rw[if_pos rfl] at heq;have hs1:=Lib.hid (hsw.out wr dk hr hdk (m-i) m i (by omega) (by omega));replace heq:=Lib.hid heq;replace hkp:=Lib.hid hkp;replace hr:=Lib.hid hr;go_wp2_with fail
   try rw[m1]
   refine hs1.out.mono ?_;rintro e w1 ⟨rfl,hr1,hk1⟩;rw[heq.out] at hr1;have hkf:=hkp.out.trans hk1 (fun _ _ h=>h);replace hr1:=Lib.hid hr1;replace hkf:=Lib.hid hkf;clear hk1;go_wp2_with fail
   go_end0
   exact⟨rfl,hr1.out,hkf.out⟩
  ·rw[if_neg c1] at heq
   have c1':¬(i:Int)=j:=by omega
   by_cases c2:j<i
   ·rw[if_pos c2] at heq
    have c2':(j:Int)<i:=by omega
    have i4:(i:Int)-j=(i-j:Nat):=by omega
    have hs1:=Lib.hid (hsw.out wr dk hr hdk (m-i) m j (by omega) (by omega));replace heq:=Lib.hid heq;replace hkp:=Lib.hid hkp;replace hr:=Lib.hid hr;go_wp2_with fail
    try rw[m1]
    refine hs1.out.mono ?_;rintro e w1 ⟨rfl,hr1,hk1⟩;have hkf:=hkp.out.trans hk1 (fun _ _ h=>h);replace hr1:=Lib.hid hr1;replace hkf:=Lib.hid hkf;clear hk1;go_wp2_with fail
    exact⟨⟨f,i-j,j,_,by go_num,rfl,by omega,by omega,by omega,by omega,by omega,hr1.out,by rw[swapR_size];exact hdk,heq.out,hkf.out⟩,by simp[intOf];omega⟩
   ·rw[if_neg c2] at heq
    have c2':¬(j:Int)<i:=by omega
    have i4:(j:Int)-i=(j-i:Nat):=by omega
    have m2:(m:Int)+j-i=(m+j-i:Nat):=by omega
    have hs1:=Lib.hid (hsw.out wr dk hr hdk (m-i) (m+j-i) i (by omega) (by omega));replace heq:=Lib.hid heq;replace hkp:=Lib.hid hkp;replace hr:=Lib.hid hr;go_wp2_with fail
    try rw[m1,m2]
    refine hs1.out.mono ?_;rintro e w1 ⟨rfl,hr1,hk1⟩;have hkf:=hkp.out.trans hk1 (fun _ _ h=>h);replace hr1:=Lib.hid hr1;replace hkf:=Lib.hid hkf;clear hk1;go_wp2_with fail
    exact⟨⟨f,i,j-i,_,rfl,by go_num,by omega,by omega,by omega,by omega,by omega,hr1.out,by rw[swapR_size];exact hdk,heq.out,hkf.out⟩,by simp[intOf];omega⟩
def entO (e:Ent):Value:=.agg #[.string (bs e.key),.string (bs e.value),.int .u64 (e.seq:Nat),.bool e.gone]
set_option maxHeartbeats 400000 in
theorem nan_s (x:ByteArray)(w:World):Calls Tryz.prog 139 #[.string x] w fun e w'=>e=.returned (.bool false)∧w=w':=by
 go_enter Tryz.func139,Tryz.ntmps139
 go_wp2
 go_ret
 exact⟨by simp,rfl⟩
set_option maxHeartbeats 400000 in
theorem nan_u (x:Nat)(w:World):Calls Tryz.prog 140 #[.int .u64 (x:Nat)] w fun e w'=>e=.returned (.bool false)∧w=w':=by
 go_enter Tryz.func140,Tryz.ntmps140
 go_wp2
 go_ret
 exact⟨by simp,rfl⟩
def cmpN (x y:Nat):Int:=if x<y then -1 else if y<x then 1 else 0
set_option maxRecDepth 100000 in
set_option maxHeartbeats 1000000 in
theorem cmp_u (x y:Nat)(w:World):Calls Tryz.prog 101 #[.int .u64 (x:Nat),.int .u64 (y:Nat)] w fun e w'=>e=.returned (.int .i64 (cmpN x y))∧w=w':=by
 have h1:=Lib.hid (nan_u x w);have h2:=Lib.hid (nan_u y w);unfold cmpN
 go_enter Tryz.func101,Tryz.ntmps101
 go_wp2_with fail
 refine h1.out.mono ?_;rintro e w1 ⟨rfl,rfl⟩;go_wp2_with fail
 refine h2.out.mono ?_;rintro e w1 ⟨rfl,rfl⟩
 by_cases c1:x<y
 ·have c1':(x:Int)<y:=by omega
  go_wp2_with fail
  go_ret
  exact⟨rfl,rfl⟩
 ·have c1':¬(x:Int)<y:=by omega
  by_cases c2:y<x
  ·have c2':(y:Int)<x:=by omega
   go_wp2_with fail
   go_ret
   exact⟨rfl,rfl⟩
  ·have c2':¬(y:Int)<x:=by omega
   go_wp2_with fail
   go_ret
   exact⟨rfl,rfl⟩
def cmpS (a b:L):Int:=if lessL a b=true then -1 else if a=b then 0 else 1
set_option maxRecDepth 100000 in
set_option maxHeartbeats 1000000 in
theorem cmp_s (a b:L)(w:World):Calls Tryz.prog 100 #[.string (bs a),.string (bs b)] w fun e w'=>e=.returned (.int .i64 (cmpS a b))∧w=w':=by
 have h1:=Lib.hid (nan_s (bs a) w);have h2:=Lib.hid (nan_s (bs b) w);obtain⟨r,hr⟩:∃r,cmpS a b=r:=⟨_,rfl⟩;rw[hr];unfold cmpS at hr;replace hr:=Lib.hid hr
 go_enter Tryz.func100,Tryz.ntmps100
 go_wp2_with fail
 refine h1.out.mono ?_;rintro e w1 ⟨rfl,rfl⟩;go_wp2_with fail
 refine h2.out.mono ?_;rintro e w1 ⟨rfl,rfl⟩;go_wp2_with fail
 ·rename_i q
  have hr:=hr.out;rw[if_pos (by rw[bs_toList,bs_toList] at q;exact q)] at hr;subst hr
  go_ret
  exact⟨rfl,rfl⟩
 ·have q1:=(by assumption:Op.bytesLess (bs a).toList (bs b).toList=false);have q2:=(by assumption:(!(bs a).toList==(bs b).toList)=true);have hr:=hr.out;rw[bs_toList,bs_toList] at q1 q2;rw[if_neg (by show ¬Op.bytesLess a b=true;rw[q1];decide),if_neg (by simpa using q2)] at hr;subst hr
  go_ret
  exact⟨rfl,rfl⟩
 ·have q1:=(by assumption:Op.bytesLess (bs a).toList (bs b).toList=false);have q2:=(by assumption:(!(bs a).toList==(bs b).toList)=false);have hr:=hr.out;rw[bs_toList,bs_toList] at q1 q2;rw[if_neg (by show ¬Op.bytesLess a b=true;rw[q1];decide),if_pos (by simpa using q2)] at hr;subst hr
  go_ret
  exact⟨rfl,rfl⟩
def ordN (a b:Int):Int:=if a≠0 then a else b
set_option maxRecDepth 100000 in
set_option maxHeartbeats 1000000 in
theorem or_any {w:World}{g:Nat}{a b:Int}(h:Blk w g 3 #[.int .i64 a,.int .i64 b]):Calls Tryz.prog 99 #[.slice (some ⟨g,0,none⟩) 2 2] w fun e w'=>e=.returned (.int .i64 (ordN a b))∧w=w':=by
 have c0:w.cell? ⟨g,0,none⟩=some (.int .i64 a):=h.cell 0;have c1:w.cell? ⟨g,1,none⟩=some (.int .i64 b):=h.cell 1;obtain⟨r,hr⟩:∃r,ordN a b=r:=⟨_,rfl⟩;rw[hr];unfold ordN at hr
 go_enter Tryz.func99,Tryz.ntmps99
 go_wp2_with fail
 go_loopw [8] (fun iv wr=>w=wr∧(iv=.int .i64 0∨(iv=.int .i64 1∧a=0)∨(iv=.int .i64 2∧a=0∧b=0))) (fun iv _=>2-(intOf iv).toNat)
 case atStart=>exact⟨by trivial,.inl rfl⟩
 case round =>
  obtain⟨rfl,rfl | ⟨rfl,h0⟩ | ⟨rfl,h0,h1⟩⟩:=hrel
  ·by_cases ha:a=0
   ·go_wp2_with fail
    exact⟨⟨by trivial,.inr (.inl ⟨by trivial,ha⟩)⟩,by simp[intOf]⟩
   ·rw[if_pos ha] at hr;subst hr;go_wp2_with fail
    go_ret
    exact⟨rfl,rfl⟩
  ·subst h0;rw[if_neg (by simp)] at hr;subst hr
   by_cases hb:b=0
   ·go_wp2_with fail
    exact⟨⟨by trivial,.inr (.inr ⟨by trivial,by trivial,hb⟩)⟩,by simp[intOf]⟩
   ·go_wp2_with fail
    go_ret
    exact⟨rfl,rfl⟩
  ·subst h0 h1;rw[if_neg (by simp)] at hr;subst hr;go_wp2_with fail
   go_ret
   exact⟨rfl,rfl⟩
def ordE (a b:Ent):Int:=ordN (cmpS a.key b.key) (cmpN b.seq a.seq)
set_option maxRecDepth 100000 in
set_option maxHeartbeats 2000000 in
theorem order_any (a b:Ent)(w:World):Calls Tryz.prog 66 #[entO a,entO b] w fun e w'=>e=.returned (.int .i64 (ordE a b))∧Below w.heap.size w w':=by
 unfold entO;have hcs:=fun W=>Lib.hid (cmp_s a.key b.key W);have hcn:=fun W=>Lib.hid (cmp_u b.seq a.seq W)
 go_enter Tryz.func66,Tryz.ntmps66
 go_wp2_with fail
 obtain⟨w0,hw0⟩:∃w0,w0=(w.alloc (.cells #[.string (bs a.key),.string (bs a.value),.int .u64 (a.seq:Nat),.bool a.gone] 46)).alloc (.cells #[.string (bs b.key),.string (bs b.value),.int .u64 (b.seq:Nat),.bool b.gone] 46):=⟨_,rfl⟩
 have hb0:Below w.heap.size w w0:=by rw[hw0];exact ((Below.refl _ _).alloc (Nat.le_refl _) _).alloc (by simp) _
 have hA:Blk w0 w.heap.size 46 #[.string (bs a.key),.string (bs a.value),.int .u64 (a.seq:Nat),.bool a.gone]:=by rw[hw0];exact (Blk.new w _ _).alloc _
 have hB:Blk w0 (w.heap.size+1) 46 #[.string (bs b.key),.string (bs b.value),.int .u64 (b.seq:Nat),.bool b.gone]:=by
  rw[hw0];have:=Blk.new (w.alloc (.cells #[.string (bs a.key),.string (bs a.value),.int .u64 (a.seq:Nat),.bool a.gone] 46)) 46 #[.string (bs b.key),.string (bs b.value),.int .u64 (b.seq:Nat),.bool b.gone]
  rwa [World.size_alloc] at this
 rw[←hw0];have c0:w0.cell? ⟨w.heap.size,0,none⟩=some (.string (bs a.key)):=hA.cell 0;have c2:w0.cell? ⟨w.heap.size,2,none⟩=some (.int .u64 (a.seq:Nat)):=hA.cell 2;have d0:w0.cell? ⟨w.heap.size+1,0,none⟩=some (.string (bs b.key)):=hB.cell 0;have d2:w0.cell? ⟨w.heap.size+1,2,none⟩=some (.int .u64 (b.seq:Nat)):=hB.cell 2;have la:=hA.lt;have lb:=hB.lt;replace hA:=Lib.hid hA;replace hB:=Lib.hid hB;replace hw0:=Lib.hid hw0;replace hb0:=Lib.hid hb0;have hxc:=@Ext.cell;have hxf:=@Ext.frozen;refine wp_hide (fun Q0 hQ0=>?_);refine wp_region_line (fun w'=>∃x:Ext _,w'=x.w) [some false,some false,some false,some false,some false,some false,some false,some false,some false,some false,none,none,none] 1 (by kernel_rfl) (by kernel_rfl) ⟨⟨_,(Below.refl _ _).drew⟩,rfl⟩ ?_;simp only[earlyL,tailL]
 repeat (first | ((with_reducible refine wpMix_p ?_);go_big_quiet_step (fail);refine wpQuiet_nil ?_) | ((with_reducible refine wpMix_e ?_);go_big_quiet_step ((first | (go_at_call 100;exact Calls.ext_same ((cmp_s a.key b.key _))) | (go_at_call 101;exact Calls.ext_same ((cmp_u b.seq a.seq _)))));refine wpQuiet_nil ?_))
 refine wpMix_nil ?_;clear hxc hxf;intro wx hwx;obtain⟨x,hx⟩:=hwx;have hb:=x.below;rw[←hx] at hb;clear hx x;have hbz:=hb.size;have hfin:=Lib.hid (hb0.out.trans (hb.mono hb0.out.size));refine wpTail_step ?_;intro Q1 hQ1;go_wp2_with fail
 refine hQ1 _ _ rfl (fun _=>⟨⟨_,hb.alloc hbz _⟩,rfl⟩) ?_;clear hQ1 Q1;have hor:=Lib.hid (or_any (Blk.new wx 3 #[.int .i64 (cmpS a.key b.key),.int .i64 (cmpN b.seq a.seq)]));have hfin2:=Lib.hid (hfin.out.trans ((Below.refl wx.heap.size wx).alloc (Nat.le_refl _) (.cells #[.int .i64 (cmpS a.key b.key),.int .i64 (cmpN b.seq a.seq)] 3) |>.mono (by have:=hfin.out.size;omega)));refine wpTail_step ?_;intro Q1 hQ1;go_wp2_with fail
 refine hor.out.mono ?_;rintro e w3 ⟨rfl,rfl⟩;go_wp2_with fail
 refine hQ1 _ _ rfl (fun h=>absurd h (by decide)) ?_;clear hQ1 Q1;refine wpTail_step ?_;intro Q1 hQ1
 go_wp2_with (fail)
 refine hQ1 _ _ rfl (fun h=>absurd h (by decide)) ?_;clear hQ1 Q1;refine wpTail_nil ?_;refine hQ0 _ _ ?_;clear hQ0 Q0;go_wp2_with fail
 go_ret
 exact⟨rfl,hfin2.out⟩
def ltE (a b:Ent):Bool:=decide (ordE a b<0)
theorem ltE_def (a b:Ent):ltE a b=(lessL a.key b.key||(decide (a.key=b.key)&&decide (b.seq<a.seq))):=by
 unfold ltE ordE ordN cmpS cmpN
 by_cases h1:lessL a.key b.key=true
 ·simp[h1]
 ·have h1':lessL a.key b.key=false:=by simpa using h1
  by_cases h2:a.key=b.key
  ·by_cases h3:b.seq<a.seq
   ·simp[h2,h3,less_irrefl]
   ·by_cases h4:a.seq<b.seq
    ·simp[h2,h3,h4,less_irrefl]
    ·simp[h2,h3,h4,less_irrefl]
  ·simp[h1',h2]
theorem order_x (a b:Ent)(w:World):Calls Tryz.prog 66 #[.agg #[.string (bs a.key),.string (bs a.value),.int .u64 (a.seq:Nat),.bool a.gone],.agg #[.string (bs b.key),.string (bs b.value),.int .u64 (b.seq:Nat),.bool b.gone]] w fun e w'=>e=.returned (.int .i64 (ordE a b))∧Below w.heap.size w w':=order_any a b w
theorem le_trans_L {x y z:L}(h1:lessL x y=false)(h2:lessL y z=false):lessL x z=false:=by
 cases h:lessL x z with
 | false=>rfl
 | true =>
  have t:=less_tri y x;rw[h1] at t;simp only[Bool.not_false,Bool.or_eq_true,beq_iff_eq] at t;rcases t with t | t
  ·have:=less_trans t h
   rw[h2] at this;cases this
  ·rw[t,h] at h2;cases h2
theorem eq_of_L {x y:L}(h1:lessL x y=false)(h2:lessL y x=false):x=y:=by
 have t:=less_tri x y;rw[h1,h2] at t
 simpa using t
theorem swo_ltE:SWO ltE where
 irrefl x:=by rw[ltE_def];simp[less_irrefl]
 trans x y z h1 h2:=by
  rw[ltE_def] at *
  simp only[Bool.or_eq_true,Bool.and_eq_true,decide_eq_true_eq] at *
  rcases h1 with h1 | ⟨h1,h3⟩
  ·rcases h2 with h2 | ⟨h2,h4⟩
   ·exact .inl (less_trans h1 h2)
   ·exact .inl (h2 ▸ h1)
  ·rcases h2 with h2 | ⟨h2,h4⟩
   ·exact .inl (h1 ▸ h2)
   ·exact .inr ⟨h1.trans h2,by omega⟩
 ntrans x y z h1 h2:=by
  rw[ltE_def] at *
  simp only[Bool.or_eq_false_iff,Bool.and_eq_false_iff,decide_eq_false_iff_not] at *
  refine⟨le_trans_L h1.1 h2.1,?_⟩
  by_cases hxz:x.key=z.key
  ·have e1:x.key=y.key:=eq_of_L h1.1 (by rw[hxz];exact h2.1);have e2:y.key=z.key:=e1 ▸ hxz;rcases h1.2 with q | q
   ·exact absurd e1 q
   ·rcases h2.2 with q2 | q2
    ·exact absurd e2 q2
    ·exact .inr (by omega)
  ·exact .inl hxz
theorem ordE_eq (a b:Ent):(ordE a b==0)=(!ltE a b&&!ltE b a):=by
 rw[ltE_def,ltE_def];unfold ordE ordN cmpS cmpN
 by_cases h1:lessL a.key b.key=true
 ·simp[h1]
 ·have h1':lessL a.key b.key=false:=by simpa using h1
  by_cases h2:a.key=b.key
  ·by_cases h3:b.seq<a.seq
   ·simp[h2,h3,less_irrefl]
   ·by_cases h4:a.seq<b.seq
    ·simp[h2,h3,h4,less_irrefl]
    ·simp[h2,h3,h4,less_irrefl]
  ·have h5:lessL b.key a.key=true:=by
    cases h:lessL b.key a.key with
    | true=>rfl
    | false=>exact absurd (eq_of_L h1' h) h2
   simp[h1',h2,h5]
end Go.Proofs.YtlpojfgeocpkeaaGreatDoor
