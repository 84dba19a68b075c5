/- Contracts: slices.SortStableFunc at entries, by merge.order. Contracts: slices.Grow, slices.Concat of one list of entries. Contracts: clear, slices.CompactFunc at entries. Contracts: slices.CompactFunc at entries, merge.sorted, merge.Merge of one list. Contracts: merge.Merge of one list. A row of structs in memory, by a list of them. Contracts of the law: fits, Great. -/
import Derived.Test.YtlpojfgeocpkeaaGreatDoorSrM3J
import Derived.Lib.AppendZeros
import Derived.Test.YtlpojfgeocpkeaaGreatDoorX01
namespace Go.Proofs.YtlpojfgeocpkeaaGreatDoor
open Go.RowKit Go.Sort
set_option linter.unusedVariables false
set_option linter.unusedSimpArgs false
theorem insB_end {n a:Nat}{d:Array Ent}(h:¬a+20≤n):∀f,insB ltE n f a d=insertionSort ltE d a n
 | 0=>rfl
 | f+1=>by unfold insB;rw[if_neg h]
theorem mrgB_end {n z a:Nat}{d:Array Ent}(h:¬a+2*z≤n):∀f,mrgB ltE n z f a d=if a+z<n then symM ltE n a (a+z) n d else d
 | 0=>rfl
 | f+1=>by unfold mrgB;rw[if_neg h]
theorem stbG_end {n z:Nat}{d:Array Ent}(h:¬z<n):∀f,stbG ltE n f z d=d
 | 0=>rfl
 | f+1=>by unfold stbG;rw[if_neg h]
theorem mrgB_size (n z:Nat):∀(f a:Nat) (d:Array Ent),(mrgB ltE n z f a d).size=d.size
 | 0,a,d=>by
  unfold mrgB;split
  ·exact symM_size _ _ _ _ _
  ·rfl
 | f+1,a,d=>by
  unfold mrgB;split
  ·rw[mrgB_size n z f,symM_size]
  ·split
   ·exact symM_size _ _ _ _ _
   ·rfl
theorem ins_size (d:Array Ent)(a b:Nat)(hab:a≤b)(hb:b≤d.size):(insertionSort ltE d a b).size=d.size:=(insertionSort_holds swo_ltE d a b hab hb).1.1
set_option maxRecDepth 100000 in
set_option maxHeartbeats 8000000 in
theorem Stb_any {w:World}{g cap:Nat}{d:Array Ent}(h:SRow w g cap d)(hsz:d.size≤100000) :
  Calls Tryz.prog 138 #[.slice (some ⟨g,0,none⟩) d.size cap,.int .i64 (d.size:Nat),.func (.func 66) #[] #[]] w fun e w'=>e=.returned (.tuple #[])∧SRow w' g cap (stableA ltE d)∧KeptBut w w' (fun k=>k=g):=by
 obtain⟨N,hN⟩:∃N,d.size=N:=⟨_,rfl⟩;obtain⟨res,hres⟩:∃res,stableA ltE d=res:=⟨_,rfl⟩;unfold stableA at hres;rw[hN] at hsz;have hsym:=Lib.hid (Sym_any g cap N (by omega) N)
 have hins:=Lib.hid (fun (W:World) (dk:Array Ent) (hr:SRow W g cap dk) (hk:dk.size=N) (x y:Nat) (h1:x≤y) (h2:y≤N)=>(by
  have:=Ins_any hr x y h1 (by omega) (by omega);rw[hk] at this
  exact⟨this,by rw[ins_size dk x y h1 (by omega)];exact hk⟩:Calls Tryz.prog 175 #[.slice (some ⟨g,0,none⟩) N cap,.int .i64 (x:Nat),.int .i64 (y:Nat),.func (.func 66) #[] #[]] W (fun e w'=>e=.returned (.tuple #[])∧SRow w' g cap (insertionSort ltE dk x y)∧KeptBut W w' (fun k=>k=g))∧(insertionSort ltE dk x y).size=N))
 rw[hN] at hres ⊢;rw[show stableA ltE d=res by unfold stableA;rw[hN];exact hres];obtain⟨d1,hd1⟩:∃d1,insB ltE N N 0 d=d1:=⟨_,rfl⟩;rw[hd1] at hres;replace hres:=Lib.hid hres
 go_enter Tryz.func138,Tryz.ntmps138
 go_wp2_with fail
 go_loopw [7,8] (fun av bv wr=>∃(f a:Nat) (dk:Array Ent),a≤N∧N≤a+f∧av=.int .i64 (a:Nat)∧bv=.int .i64 ((a+20:Nat):Int)∧SRow wr g cap dk∧dk.size=N∧insB ltE N f a dk=d1∧KeptBut w wr (fun k=>k=g)) (fun av _ _=>N-(intOf av).toNat)
 case atStart=>exact⟨N,0,d,Nat.zero_le _,by omega,rfl,rfl,h,hN,hd1,KeptBut.refl _ _⟩
 case round =>
  obtain⟨f,a,dk,haN,hNf,rfl,rfl,hr,hdk,heq,hkp⟩:=hrel
  by_cases hlt:a+20≤N
  ·have hlt':((a+20:Nat):Int)≤N:=by omega
   obtain⟨f,rfl⟩:∃f',f=f'+1:=⟨f-1,by omega⟩;unfold insB at heq;rw[if_pos hlt] at heq;obtain⟨hc0,hz0⟩:=hins.out wr dk hr hdk a (a+20) (by omega) hlt;have hc:=Lib.hid hc0;clear hc0;replace heq:=Lib.hid heq;replace hkp:=Lib.hid hkp;replace hr:=Lib.hid hr;go_wp2_with fail
   refine hc.out.mono ?_;rintro e w1 ⟨rfl,hr1,hk1⟩;have hkp1:=Lib.hid (hkp.out.trans hk1 (fun _ _ h=>h));replace hr1:=Lib.hid hr1;clear hk1;go_wp2_with fail
   exact⟨⟨f,a+20,_,by omega,by omega,by go_num,by go_num,hr1.out,hz0,heq.out,hkp1.out⟩,by simp[intOf];omega⟩
  ·have hlt':¬((a+20:Nat):Int)≤N:=by omega
   rw[insB_end hlt] at heq;obtain⟨hc0,hz0⟩:=hins.out wr dk hr hdk a N haN (Nat.le_refl _);have hc:=Lib.hid hc0;clear hc0;rw[heq] at hz0;replace heq:=Lib.hid heq;replace hkp:=Lib.hid hkp;replace hr:=Lib.hid hr;go_wp2_with fail
   refine hc.out.mono ?_;rintro e w1 ⟨rfl,hr1,hk1⟩;rw[heq.out] at hr1;have hkp1:=Lib.hid (hkp.out.trans hk1 (fun _ _ h=>h));replace hr1:=Lib.hid hr1;clear hk1 hr hkp;go_wp2_with fail
   go_loopw [6,7,8,9] (fun zv _ _ _ ws=>∃(f z:Nat) (dk:Array Ent),0<z∧z≤200000∧N≤z+f∧zv=.int .i64 (z:Nat)∧SRow ws g cap dk∧dk.size=N∧stbG ltE N f z dk=res∧KeptBut w ws (fun k=>k=g)) (fun zv _ _ _ _=>N-(intOf zv).toNat)
   case atStart=>exact⟨N,20,d1,by omega,by omega,by omega,rfl,hr1.out,hz0,hres.out,hkp1.out⟩
   case round =>
    clear hr1 hkp1 hz0 hc heq;obtain⟨f,z,dk,hz1,hz2,hNz,rfl,hr,hdk,heq,hkp⟩:=hrel
    by_cases hzn:z<N
    ·have hzn':(z:Int)<N:=by omega
     obtain⟨f,rfl⟩:∃f',f=f'+1:=⟨f-1,by omega⟩;unfold stbG at heq;rw[if_pos hzn] at heq;obtain⟨d2,hd2⟩:∃d2,mrgB ltE N z N 0 dk=d2:=⟨_,rfl⟩;have hz3:=mrgB_size N z N 0 dk;rw[hd2] at heq hz3;rw[hdk] at hz3;replace heq:=Lib.hid heq;replace hkp:=Lib.hid hkp;replace hr:=Lib.hid hr;go_wp2_with fail
     go_loopw [7,8] (fun av bv wt=>∃(f2 a:Nat) (dj:Array Ent),a≤N∧N≤a+f2∧av=.int .i64 (a:Nat)∧bv=.int .i64 ((a+2*z:Nat):Int)∧SRow wt g cap dj∧dj.size=N∧mrgB ltE N z f2 a dj=d2∧KeptBut w wt (fun k=>k=g)) (fun av _ _=>N-(intOf av).toNat)
     case atStart=>exact⟨N,0,dk,Nat.zero_le _,by omega,rfl,by go_num,hr.out,hdk,hd2,hkp.out⟩
     case round =>
      clear hr hkp;obtain⟨f2,a,dj,haN,hNf,rfl,rfl,hr,hdj,heqj,hkp⟩:=hrel
      by_cases hlt:a+2*z≤N
      ·have hlt':((a+2*z:Nat):Int)≤N:=by omega
       obtain⟨f2,rfl⟩:∃f',f2=f'+1:=⟨f2-1,by omega⟩;unfold mrgB at heqj;rw[if_pos hlt] at heqj;have hc:=hsym.out wr dj hr hdj a (a+z) (a+2*z) (by omega) (by omega) hlt (by omega)
       push_cast at hc
       replace hc:=Lib.hid hc;have hz4:=symM_size (lt:=ltE) N a (a+z) (a+2*z) dj;replace heqj:=Lib.hid heqj;replace hkp:=Lib.hid hkp;replace hr:=Lib.hid hr;go_wp2_with fail
       refine hc.out.mono ?_;rintro e w3 ⟨rfl,hr3,hk3⟩;have hkp3:=Lib.hid (hkp.out.trans hk3 (fun _ _ h=>h));replace hr3:=Lib.hid hr3;clear hk3;go_wp2_with fail
       exact⟨⟨f2,a+2*z,_,by omega,by omega,by go_num,by go_num,hr3.out,by rw[hz4];exact hdj,heqj.out,hkp3.out⟩,by simp[intOf];omega⟩
      ·have hlt':¬((a+2*z:Nat):Int)≤N:=by omega
       rw[mrgB_end hlt] at heqj
       by_cases haz:a+z<N
       ·have haz':(a:Int)+z<N:=by omega
        rw[if_pos haz] at heqj;have hc:=hsym.out wr dj hr hdj a (a+z) N (by omega) haz (Nat.le_refl _) (by omega);rw[heqj] at hc
        push_cast at hc
        replace hc:=Lib.hid hc;replace heqj:=Lib.hid heqj;replace hkp:=Lib.hid hkp;replace hr:=Lib.hid hr;go_wp2_with fail
        refine hc.out.mono ?_;rintro e w3 ⟨rfl,hr3,hk3⟩;have hkp3:=Lib.hid (hkp.out.trans hk3 (fun _ _ h=>h));replace hr3:=Lib.hid hr3;clear hk3;go_wp2_with fail
        exact⟨⟨f,z*2,_,by omega,by omega,by omega,by go_num,hr3.out,hz3,heq.out,hkp3.out⟩,by simp[intOf];omega⟩
       ·have haz':¬(a:Int)+z<N:=by omega
        rw[if_neg haz] at heqj;rw[heqj] at hr;replace heqj:=Lib.hid heqj;replace hkp:=Lib.hid hkp;replace hr:=Lib.hid hr;go_wp2_with fail
        exact⟨⟨f,z*2,_,by omega,by omega,by omega,by go_num,hr.out,hz3,heq.out,hkp.out⟩,by simp[intOf];omega⟩
    ·have hzn':¬(z:Int)<N:=by omega
     rw[stbG_end hzn] at heq;rw[heq] at hr;replace hkp:=Lib.hid hkp;replace hr:=Lib.hid hr;go_wp2_with fail
     go_end0
     exact⟨rfl,hr.out,hkp.out⟩
set_option maxRecDepth 100000 in
set_option maxHeartbeats 1000000 in
theorem SortS_any {w:World}{g cap:Nat}{d:Array Ent}(h:SRow w g cap d)(hsz:d.size≤100000) :
  Calls Tryz.prog 96 #[.slice (some ⟨g,0,none⟩) d.size cap,.func (.func 66) #[] #[]] w fun e w'=>e=.returned (.tuple #[])∧SRow w' g cap (stableA ltE d)∧KeptBut w w' (fun k=>k=g):=by
 have hs:=Lib.hid (Stb_any h hsz);obtain⟨N,hN⟩:∃N,d.size=N:=⟨_,rfl⟩;rw[hN] at hs ⊢
 go_enter Tryz.func96,Tryz.ntmps96
 go_wp2_with fail
 refine hs.out.mono ?_;rintro e w1 ⟨rfl,hr,hk⟩;replace hr:=Lib.hid hr;replace hk:=Lib.hid hk;go_wp2_with fail
 go_end0
 exact⟨rfl,hr.out,hk.out⟩
def enC (e:Ent):List Value:=[.string (bs e.key),.string (bs e.value),.int .u64 (e.seq:Nat),.bool e.gone]
def entsF (l:List Ent):List Value:=l.flatMap enC
theorem entsF_len (l:List Ent):(entsF l).length=l.length*4:=by
 induction l with
 | nil=>rfl
 | cons e l ih =>
  unfold entsF at *
  rw[List.flatMap_cons,List.length_append,ih,List.length_cons];simp[enC];omega
theorem entsF_at:∀(l:List Ent) (i:Nat) (e:Ent),l[i]? = some e→(entsF l)[i*4]? = some (.string (bs e.key))∧(entsF l)[i*4+1]? = some (.string (bs e.value))∧(entsF l)[i*4+2]? = some (.int .u64 (e.seq:Nat))∧(entsF l)[i*4+3]? = some (.bool e.gone)
 | [],i,e,h=>by simp at h
 | x::l,0,e,h=>by simp at h;subst h;simp[entsF,enC]
 | x::l,i+1,e,h=>by
  have ih:=entsF_at l i e (by simpa using h);rw[show (i+1)*4=i*4+4 by omega]
  simpa[entsF,enC] using ih
theorem ent_info:(Tryz.prog.info? 46).map (fun i=>(i.zero,i.size,i.bytes))=some (some (.agg #[.string ⟨#[]⟩,.string ⟨#[]⟩,.int .u64 0,.bool false]),4,48):=by kernel_rfl
def OwnF (w:World)(B:Nat)(v:Value)(l:List Ent):Prop:=(v=.slice none 0 0∧l=[])∨∃g cap,v=.slice (some ⟨g,0,none⟩) l.length cap∧B≤g∧cap≤maxLen∧SRow w g cap l.toArray
theorem OwnF.of_own {w:World}{B:Nat}{v:Value}{l:List Ent}(h:w.ownsRow B 46 4 v l.length (entsF l)):OwnF w B v l:=by
 rcases h.2 with⟨rfl,e⟩ | ⟨g,cap,cur,rfl,hB,hg,hn,hm,hs,ht⟩
 ·exact .inl ⟨rfl,List.eq_nil_of_length_eq_zero e⟩
 ·refine .inr ⟨g,cap,rfl,hB,hm,by simpa using hn,cur,hg,hs,fun i hi=>?_⟩
  have hi':i<l.length:=by simpa using hi
  have e1:l.toArray[i]! = l[i]:=by simp[hi']
  rw[e1];obtain⟨h0,h1,h2,h3⟩:=entsF_at l i l[i] (List.getElem?_eq_getElem hi')
  have key:∀j,j<l.length*4→cur[j]? = (entsF l)[j]? := fun j hj=>by
   rw[←ht,List.getElem?_take,if_pos hj,Array.getElem?_toList]
  exact⟨(key _ (by omega)).trans h0,(key _ (by omega)).trans h1,(key _ (by omega)).trans h2,(key _ (by omega)).trans h3⟩
theorem OwnF.reads {w:World}{B:Nat}{v:Value}{l:List Ent}(h:OwnF w B v l):∃A cap,v=.slice A l.length cap∧Reads w w.heap.size 4 A l.length (entsF l):=by
 rcases h with⟨rfl,rfl⟩ | ⟨g,cap,rfl,hB,hm,hr⟩
 ·exact⟨none,0,rfl,Reads.none_⟩
 ·refine⟨_,cap,rfl,entsF_len l,fun hn=>⟨⟨g,0,none⟩,rfl,hr.lt,fun j u hu=>?_⟩⟩
  have hj:j<l.length*4:=by
   have:=(List.getElem?_eq_some_iff.1 hu).1
   rwa [entsF_len] at this
  have hi:j / 4<l.length:=by omega
  obtain⟨h0,h1,h2,h3⟩:=entsF_at l (j / 4) _ (List.getElem?_eq_getElem hi);obtain⟨p0,p1,p2,p3⟩:=hr.at_ (i:=j / 4) (by simpa using hi)
  have e1:l.toArray[j / 4]! = l[j / 4]:=by simp[hi]
  rw[e1] at p0 p1 p2 p3
  have ea:(⟨g,0,none⟩:Addr).add j=⟨g,j,none⟩:=by rw[Addr.add_lit,Nat.zero_add]
  rw[ea];have h4:j % 4<4:=Nat.mod_lt _ (by decide)
  have hjj:j=j / 4*4+j % 4:=by omega
  generalize j / 4=q at *
  generalize j % 4=r at *
  subst hjj
  match r,h4 with
  | 0,_=>rw[Nat.add_zero] at *;rw[h0] at hu;injection hu with hu;rw[←hu];exact p0
  | 1,_=>rw[h1] at hu;injection hu with hu;rw[←hu];exact p1
  | 2,_=>rw[h2] at hu;injection hu with hu;rw[←hu];exact p2
  | 3,_=>rw[h3] at hu;injection hu with hu;rw[←hu];exact p3
theorem OwnF.below {w w':World}{B:Nat}{v:Value}{l:List Ent}(h:OwnF w B v l)(hb:Below w.heap.size w w'):OwnF w' B v l:=by
 rcases h with h | ⟨g,cap,rfl,hB,hm,hr⟩
 ·exact .inl h
 ·exact .inr ⟨g,cap,rfl,hB,hm,hr.below hb hr.lt⟩
set_option maxRecDepth 100000 in
set_option maxHeartbeats 1000000 in
theorem Grow_any (n:Nat)(hn:n≤1000000)(w:World):Calls Tryz.prog 137 #[.slice none 0 0,.int .i64 (n:Nat)] w fun e w'=>∃v,e=.returned v∧w'.ownsRow w.heap.size 46 4 v 0 []∧Below w.heap.size w w':=by
 obtain⟨i0,hi0,hz0,hz1,hz2⟩:=info_parts ent_info
 by_cases h0:n=0
 ·subst h0
  go_enter Tryz.func137,Tryz.ntmps137
  go_wp2_with fail
  go_ret
  exact⟨_,rfl,World.ownsRow_nil _ _ _ 4,Below.refl _ _⟩
 ·have hp:0<n:=by omega
  have hpi:(0:Int)<n:=by omega
  have hrun:=fun ty W=>Lib.run_append_nil_zeros (P:=Tryz.prog) W 44 3 ty 46 i0 _ .i64 .i64 Tryz.underlying44 (by kernel_rfl) hi0 hz0 n hp (by rw[hz1];decide) (by omega) (by rw[hz2];omega)
  go_enter Tryz.func137,Tryz.ntmps137
  go_wp2_with (at_builtin;refine Lib.wpList_append_run _ rfl _ _ _ _ rfl _ _ rfl rfl _ _ (hrun _ _) ?_)
  go_ret
  refine⟨_,rfl,⟨rfl,.inr ⟨_,_,_,rfl,Nat.le_refl _,heap_alloc_new _ _,Nat.zero_le _,grownCap_le_maxLen _ _ _ _ (by unfold maxLen;omega),?_,by simp⟩⟩,((Below.refl _ _).drew).alloc (Nat.le_refl _) _⟩;have hg:=grownCap_ge w n 0 46;rw[Array.size_append,size_zeroCells,size_zeroCells];show n*4+(grownCap w n 0 46-n)*4=grownCap w n 0 46*4;omega
set_option maxRecDepth 100000 in
set_option maxHeartbeats 2000000 in
theorem Concat_one {w:World}{b c:Nat}{A:Option Addr}{l:List Ent}(hb:Blk w b 44 #[.slice A l.length c])(hr:Reads w w.heap.size 4 A l.length (entsF l))(hl:l.length≤100000) :
  Calls Tryz.prog 95 #[.slice (some ⟨b,0,none⟩) 1 1] w fun e w'=>∃v,e=.returned v∧OwnF w' w.heap.size v l∧Below w.heap.size w w':=by
 obtain⟨i0,hi0,hz0,hz1,hz2⟩:=info_parts ent_info;obtain⟨N,hN⟩:∃N,l.length=N:=⟨_,rfl⟩;have hg:=Lib.hid (Grow_any N (by omega) w)
 have c0:w.cell? ⟨b,0,none⟩=some (.slice A N c):=by rw[←hN];exact hb.cell 0
 have hbl:=hb.lt
 have h1e:∀u∈entsF l,u.oneCell'=true:=by
  intro u hu;unfold entsF at hu;rw[List.mem_flatMap] at hu;obtain⟨e,_,hu⟩:=hu;simp[enC] at hu
  rcases hu with rfl | rfl | rfl | rfl<;>rfl
 rw[hN] at hr hl;replace hr:=Lib.hid hr;replace hb:=Lib.hid hb;replace h1e:=Lib.hid h1e
 go_enter Tryz.func95,Tryz.ntmps95
 go_wp2_with fail
 go_loopw [3,5,11] (fun sv _ iv wr=>w=wr∧((sv=.int .i64 0∧iv=.int .i64 0)∨(sv=.int .i64 (N:Nat)∧iv=.int .i64 1))) (fun _ _ iv _=>1-(intOf iv).toNat)
 case atStart=>exact⟨by trivial,.inl ⟨rfl,rfl⟩⟩
 case round =>
  obtain⟨rfl,⟨rfl,rfl⟩ | ⟨rfl,rfl⟩⟩:=hrel
  ·go_wp2_with fail
   go_roundw
   case rel=>exact⟨by trivial,.inr ⟨by go_num,by go_num⟩⟩
   case measure=>simp[intOf]
  ·go_wp2_with fail
   refine hg.out.mono ?_;rintro e w1 ⟨v1,rfl,ho1,hb1⟩;have c1:w1.cell? ⟨b,0,none⟩=some (.slice A N c):=(hb1.cell (p:=⟨b,0,none⟩) hbl).trans c0;have hr1:=hr.out.below hb1
   have hbl1:b<w1.heap.size:=by have:=hb1.size;omega
   obtain⟨VA,Vc,rfl⟩:∃A c,v1=.slice A 0 c:=by
    rcases ho1.2 with⟨rfl,_⟩ | ⟨g,cap,cur,rfl,_⟩
    ·exact⟨_,_,rfl⟩
    ·exact⟨_,_,rfl⟩
   replace hb1:=Lib.hid hb1;replace ho1:=Lib.hid ho1;replace hr1:=Lib.hid hr1;go_wp2_with fail
   go_loopw [6,8,27] (fun v _ iv wr=>Below w.heap.size w wr∧((iv=.int .i64 0∧wr=w1∧v=.slice VA 0 Vc)∨(iv=.int .i64 1∧wr.ownsRow w.heap.size 46 4 v N (entsF l)))) (fun _ _ iv _=>1-(intOf iv).toNat)
   case atStart=>exact⟨hb1.out,.inl ⟨rfl,rfl,rfl⟩⟩
   case round =>
    obtain⟨hbw,⟨rfl,rfl,rfl⟩ | ⟨rfl,ho⟩⟩:=hrel
    ·have ho1':=ho1.out;replace hbw:=Lib.hid hbw
     go_wp2_with (at_builtin;refine wpList_append_any _ rfl (.tmp 31) (.tmp 32) _ rfl w.heap.size 46 i0 _ 4 48 Tryz.underlying44 hi0 hz0 hz1 hz2 rfl (by omega) _ 0 [] rfl ho1' w.heap.size A N c (entsF l) rfl hr1.out h1e.out ?c0 ?c1 ?c2 ?_;rotate_left 3;intro v2 w2 ho2 hg2 hat2)
     case c0=>simp only[maxLen];omega
     case c1=>omega
     case c2=>have:=hb1.out.size;omega
     have hbn:=hbw.out.grown hg2 (by have:=hbw.out.size;omega) (fun j hj=>(own_lt ho1' j hj).1);rw[Nat.zero_add,List.nil_append] at ho2;exact⟨⟨hbn,.inr ⟨rfl,ho2⟩⟩,by simp[intOf]⟩
    ·replace hbw:=Lib.hid hbw;go_wp2_with fail
     go_ret
     exact⟨_,rfl,.of_own (by rw[hN];exact ho),hbw.out⟩
section
variable {P:Program}(w:World)
theorem run_clear_row (t ty e:TypeId)(i:TypeInfo)(z:Value)(ht:P.underlying t=some (.slice e))(hi:P.info? e=some i)(hz:i.zero=some z)(g o n c:Nat)(cur:Array Value)(hg:w.heap[g]? = some (.cells cur e (0,0)))
  (hn:n≠0) (hfit:o+n*z.cells.size≤cur.size) (h1:∀v∈(Builtin.zeroCells z.cells n).toList,v.oneCell'=true) :
  (Builtin.clear_ #[t] ty #[.slice (some ⟨g,o,none⟩) n c]).run P w=.ok (.tuple #[]) (w.setRow g (cur.toList.take o++(Builtin.zeroCells z.cells n).toList++cur.toList.drop (o+n*z.cells.size)).toArray):=by
 have hst:=run_storeCells_at (P:=P) g o e (Builtin.zeroCells z.cells n).toList 0 cur w hg (by rw[Array.length_toList,size_zeroCells];omega) h1;rw[Nat.add_zero,Array.length_toList,size_zeroCells] at hst;obtain⟨m,rfl⟩:∃m,n=m+1:=⟨n-1,by omega⟩;simp[Builtin.clear_,run_underlying ht,zeroValue,typeInfo,hi,hz,hst]
theorem wp_clear_run {o:Oper}{a:Act}{K:Act→World→Prop}{Q:Exit→Act→World→Prop}(x:Operand)(t:TypeId)
  (ho:o.op=.call { callee:=.builtin .clear,args:=#[x],argTypes:=#[t] }) (vx:Value) (hx:a.eval x=vx)
  (v':Value) (w':World) (hr:(Builtin.clear_ #[t] o.type #[vx]).run P w=.ok v' w') (h:K (a.put o.dst v') w'):o.wp P a w K Q:=by
 unfold Oper.wp execOp;simp only[ho,resolve,invoke,builtin,Sem.run_bind,Sem.run_pure,Result.andThen_ok,List.map_toArray,List.map_cons,List.map_nil,hx,hr];exact h
theorem wpList_clear_run {ops:Array Oper}{rest:List Oper}{o:Oper}{a:Act}{Q:Exit→Act→World→Prop}(hgd:o.guard=none)(x:Operand)(t:TypeId)
  (ho:o.op=.call { callee:=.builtin .clear,args:=#[x],argTypes:=#[t] }) (vx:Value) (hx:a.eval x=vx)
  (v':Value) (w':World) (hr:(Builtin.clear_ #[t] o.type #[vx]).run P w=.ok v' w') (h:wpList P ops Q rest (a.put o.dst v') w'):wpList P ops Q (o::rest) a w :=
 wpList_plain hgd fun _ hK=>wp_clear_run w x t ho vx hx v' w' hr (hK _ _ h)
end
def zeroE:Value:=.agg #[.string ⟨#[]⟩,.string ⟨#[]⟩,.int .u64 0,.bool false]
theorem zero_one (n:Nat):∀v∈(Builtin.zeroCells zeroE.cells n).toList,v.oneCell'=true:=by
 intro v hv;unfold Builtin.zeroCells at hv;rw[Array.toList_map,List.mem_map] at hv;obtain⟨i,_,rfl⟩:=hv;have h4:i % 4<4:=Nat.mod_lt _ (by decide);show (zeroE.cells[i % 4]!).oneCell'=true
 generalize i % 4=r at *
 match r,h4 with
 | 0,_=>rfl
 | 1,_=>rfl
 | 2,_=>rfl
 | 3,_=>rfl
theorem SRow.clear {w:World}{g cap:Nat}{d:Array Ent}(h:SRow w g cap d)(k n:Nat)(hk:k+n=d.size)(hn:n≠0)(c:Nat)(ty:TypeId) :
  ∃w',(Builtin.clear_ #[44] ty #[.slice (some ⟨g,k*4,none⟩) n c]).run Tryz.prog w=.ok (.tuple #[]) w'∧SRow w' g cap (d.extract 0 k)∧∀S:Nat→Prop,S g→KeptBut w w' S:=by
 obtain⟨i0,hi0,hz0,hz1,hz2⟩:=info_parts ent_info;obtain⟨cs,hb,hs,hc⟩:=h.blk;have hle:=h.le
 have hfit:k*4+n*zeroE.cells.size≤cs.size:=by
  show k*4+n*4≤cs.size;omega
 refine⟨_,run_clear_row (P:=Tryz.prog) w _ ty _ i0 zeroE Tryz.underlying44 hi0 hz0 g (k*4) n c cs hb hn hfit (zero_one n),⟨?_,_,setRow_heap w g cs _ _ _ hb,?_,?_⟩,fun S hS=>⟨rfl,rfl,rfl,by simp,fun j _ hj=>setRow_other w g j _ (fun e=>hj (e ▸ hS))⟩⟩
 ·rw[Array.size_extract];omega
 ·have hz4:(Builtin.zeroCells zeroE.cells n).size=n*4:=size_zeroCells _ _;have h4:zeroE.cells.size=4:=rfl;rw[List.size_toArray,List.length_append,List.length_append,List.length_take,List.length_drop,Array.length_toList,Array.length_toList,hz4,h4];omega
 ·intro i hi;rw[Array.size_extract] at hi
  have hi2:i<k:=by omega
  have hid:i<d.size:=by omega
  have e1:(d.extract 0 k)[i]! = d[i]! := by
   have hx:i<(d.extract 0 k).size:=by rw[Array.size_extract];omega
   rw[getElem!_pos _ i hx,getElem!_pos _ i hid];simp
  rw[e1];obtain⟨h0,h1,h2,h3⟩:=hc i hid
  have key:∀j,j<k*4→(cs.toList.take (k*4)++(Builtin.zeroCells zeroE.cells n).toList++cs.toList.drop (k*4+n*zeroE.cells.size)).toArray[j]? = cs[j]? := fun j hj=>by
   rw[List.getElem?_toArray,List.append_assoc,List.getElem?_append_left (by rw[List.length_take,Array.length_toList];omega),List.getElem?_take,if_pos hj,Array.getElem?_toList]
  exact⟨(key _ (by omega)).trans h0,(key _ (by omega)).trans h1,(key _ (by omega)).trans h2,(key _ (by omega)).trans h3⟩
def eqE (a b:Ent):Bool:=ordE a b==0
set_option maxRecDepth 100000 in
set_option maxHeartbeats 1000000 in
theorem eqc_any {w:World}{fb:Nat}(h:Blk w fb 114 #[.func (.func 66) #[] #[]])(a b:Ent) :
  Calls Tryz.prog 98 #[.agg #[.string (bs a.key),.string (bs a.value),.int .u64 (a.seq:Nat),.bool a.gone],.agg #[.string (bs b.key),.string (bs b.value),.int .u64 (b.seq:Nat),.bool b.gone],.pointer (some ⟨fb,0,none⟩)] w fun e w'=>e=.returned (.bool (eqE a b))∧Below w.heap.size w w':=by
 have c0:w.cell? ⟨fb,0,none⟩=some (.func (.func 66) #[] #[]):=h.cell 0;have hfl:=h.lt;obtain⟨w0,hw0⟩:∃w0,w0=(w.alloc (.cells #[.string (bs a.key),.string (bs a.value),.int .u64 (a.seq:Nat),.bool a.gone] 46)).alloc (.cells #[.string (bs b.key),.string (bs b.value),.int .u64 (b.seq:Nat),.bool b.gone] 46):=⟨_,rfl⟩
 have hb0:Below w.heap.size w w0:=by rw[hw0];exact ((Below.refl _ _).alloc (Nat.le_refl _) _).alloc (by simp) _
 have ho:=Lib.hid (order_x a b w0);rw[hw0] at ho;have hz:eqE a b=(ordE a b==0):=rfl;rw[hz];replace hb0:=Lib.hid hb0
 go_enter Tryz.func98,Tryz.ntmps98
 go_wp2_with fail
 refine ho.out.mono ?_;rintro e w1 ⟨rfl,hb1⟩;rw[←hw0] at hb1;have hfin:=Lib.hid (hb0.out.trans (hb1.mono hb0.out.size));clear hb1;go_wp2_with fail
 go_ret
 exact⟨rfl,hfin.out⟩
theorem compG_snoc (eq:Ent→Ent→Bool)(x:Ent):∀(r:List Ent) (p:Ent),compG eq p (r++[x])=compG eq p r++(if eq x (r.getLast?.getD p) then [] else [x])
 | [],p=>by
  rfl
 | y::r,p=>by
  have ih:=compG_snoc eq x r y
  show (if eq y p then compG eq y (r++[x]) else y::compG eq y (r++[x]))=(if eq y p then compG eq y r else y::compG eq y r)++_
  rw[ih,List.getLast?_cons]
  split<;>simp
theorem compL_snoc (eq:Ent→Ent→Bool)(l:List Ent)(n:Nat)(h0:0<n)(hn:n<l.length):compL eq (l.take (n+1))=compL eq (l.take n)++(if eq l[n] l[n-1] then [] else [l[n]]):=by
 cases l with
 | nil=>simp at hn
 | cons y r =>
  obtain⟨m,rfl⟩:∃m,n=m+1:=⟨n-1,by omega⟩
  have hm:m<r.length:=by simpa using hn
  rw[List.take_succ_cons,List.take_succ_cons];show y::compG eq y (r.take (m+1))=y::compG eq y (r.take m)++_;rw[List.take_succ_eq_append_getElem hm,compG_snoc,List.cons_append];have e1:(y::r)[m+1]=r[m]:=rfl
  have e2:(r.take m).getLast?.getD y=(y::r)[m+1-1]:=by
   cases m with
   | zero=>rfl
   | succ m =>
    have hm':m<r.length:=by omega
    rw[List.getLast?_eq_getElem?,List.length_take,Nat.min_eq_left (by omega),Nat.add_sub_cancel,List.getElem?_take,if_pos (by omega),List.getElem?_eq_getElem hm'];rfl
  rw[e2,e1]
theorem compL_one (eq:Ent→Ent→Bool)(l:List Ent)(h:l.length≤1):compL eq l=l:=by
 cases l with
 | nil=>rfl
 | cons x r =>
  have:r=[]:=List.eq_nil_of_length_eq_zero (by simpa using h);subst this;rfl
theorem compL_len (eq:Ent→Ent→Bool)(l:List Ent):(compL eq l).length≤l.length:=(compL_sub eq l).length_le
theorem toA_get (l:List Ent)(i:Nat)(h:i<l.length):l.toArray[i]! = l[i]:=by simp[h]
set_option maxRecDepth 100000 in
set_option maxHeartbeats 8000000 in
theorem Comp_any {w:World}{g cap fb:Nat}{l:List Ent}(h:SRow w g cap l.toArray)(hfb:Blk w fb 114 #[.func (.func 66) #[] #[]])(hl:l.length≤100000) :
  Calls Tryz.prog 97 #[.slice (some ⟨g,0,none⟩) l.length cap,.func (.func 98) #[] #[.pointer (some ⟨fb,0,none⟩)]] w fun e w'=>e=.returned (.slice (some ⟨g,0,none⟩) (compL eqE l).length cap)∧SRow w' g cap (compL eqE l).toArray∧KeptBut w w' (fun k=>k=g):=by
 obtain⟨N,hN⟩:∃N,l.length=N:=⟨_,rfl⟩
 have hne:fb≠g:=by
  obtain⟨cs,hb,_⟩:=h.blk;exact Blk.ne_ hfb hb (by decide)
 have hcap:N≤cap:=by have:=h.le;simpa[hN] using this
 have hcmp:=Lib.hid (fun (W:World) (hk:KeptBut w W (fun k=>k=g)) (x y:Ent)=>eqc_any (hfb.keptB hk hne) x y);rw[hN];rw[hN] at hl
 by_cases h2:N<2
 ·have h2':(N:Int)<2:=by omega
  rw[compL_one eqE l (by omega)];rw[hN]
  go_enter Tryz.func97,Tryz.ntmps97
  go_wp2_with fail
  go_ret
  exact⟨rfl,h,KeptBut.refl _ _⟩
 have h2':¬(N:Int)<2:=by omega
 obtain⟨res,hres⟩:∃res,compL eqE l=res:=⟨_,rfl⟩;rw[hres];replace hfb:=Lib.hid hfb
 go_enter Tryz.func97,Tryz.ntmps97
 go_wp2_with fail
 go_loopw [5] (fun kv wr=>∃k:Nat,1≤k∧k≤N∧kv=.int .i64 (k:Nat)∧SRow wr g cap l.toArray∧compL eqE (l.take k)=l.take k∧KeptBut w wr (fun k=>k=g)) (fun kv _=>N-(intOf kv).toNat)
 case atStart=>exact⟨1,Nat.le_refl _,by omega,rfl,h,compL_one _ _ (by rw[List.length_take];omega),KeptBut.refl _ _⟩
 case round =>
  obtain⟨k,hk1,hkN,rfl,hr,heq,hkp⟩:=hrel;have hgl:=hr.lt
  by_cases hlt:k<N
  ·have hlt':(k:Int)<N:=by omega
   obtain⟨kp,rfl⟩:∃kp,k=kp+1:=⟨k-1,by omega⟩
   have hkl:kp+1<l.length:=by omega
   have hkl0:kp<l.length:=by omega
   have hsn:=compL_snoc eqE l (kp+1) (by omega) hkl;rw[heq] at hsn;obtain⟨p0,p1,p2,p3⟩:=hr.at_ (i:=kp+1) (by simpa using hkl);obtain⟨q0,q1,q2,q3⟩:=hr.at_ (i:=kp) (by simpa using hkl0);rw[toA_get l _ hkl] at p0 p1 p2 p3;rw[toA_get l _ hkl0] at q0 q1 q2 q3;simp only[Nat.add_sub_cancel] at hsn;have hc:=(fun x:Ext wr=>hcmp.out x.w (hkp.trans (KeptBut.of_below x.below) (fun _ _ h=>h)) l[kp+1] l[kp])
   have e0:((kp:Int)+1).toNat=kp+1:=by omega
   have e9:(kp:Int)+1-1=kp:=by omega
   have k2:(kp:Int)<N:=by omega
   obtain⟨B,hB⟩:∃B,eqE l[kp+1] l[kp]=B:=⟨_,rfl⟩;rw[hB] at hsn;simp only[hB] at hc;replace hB:=Lib.hid hB;replace hc:=Lib.hid hc;replace hsn:=Lib.hid hsn;replace heq:=Lib.hid heq;replace hkp:=Lib.hid hkp;replace hr:=Lib.hid hr
   have hcap1:¬cap=kp+1:=by omega
   obtain⟨x1,hx1⟩:∃x1,l[kp+1]=x1:=⟨_,rfl⟩;obtain⟨x0,hx0⟩:∃x0,l[kp]=x0:=⟨_,rfl⟩;rw[hx1] at p0 p1 p2 p3 hsn hc;rw[hx0] at q0 q1 q2 q3 hc;replace hx1:=Lib.hid hx1;replace hx0:=Lib.hid hx0
   cases B with
   | false =>
    go_wp2_with fail
    have hxc:=@Ext.cell;refine wp_region_ext (by kernel_rfl) (by kernel_rfl) ?_
    repeat (go_big_quiet_step ((first | (go_at_call 98;exact Calls.ext ((hc.out _))))))
    refine wpQuiet_nil ?_;clear hxc;intro wx hwx;obtain⟨x,hx⟩:=hwx;have hb:=x.below;rw[←hx] at hb;clear hx x;have hr':=Lib.hid (hr.out.below hb hgl);have hkp':=Lib.hid (hkp.out.trans (KeptBut.of_below hb) (fun _ _ h=>h))
    have hnx:compL eqE (l.take (kp+1+1))=l.take (kp+1+1):=by
     rw[hsn.out,if_neg (by decide),List.take_succ_eq_append_getElem hkl,hx1.out]
    replace hnx:=Lib.hid hnx;go_wp2_with fail
    exact⟨⟨kp+1+1,by omega,by omega,by go_num,hr'.out,hnx.out,hkp'.out⟩,by simp[intOf];omega⟩
   | true =>
    obtain⟨M,hM⟩:∃M,N-(kp+1)=M:=⟨_,rfl⟩
    have hMp:kp+1+M=N:=by omega
    have hM':(N:Int)-((kp:Int)+1)=M:=by omega
    go_wp2_with fail
    have hxc:=@Ext.cell;refine wp_region_ext (by kernel_rfl) (by kernel_rfl) ?_
    repeat (go_big_quiet_step ((first | (go_at_call 98;exact Calls.ext ((hc.out _))))))
    refine wpQuiet_nil ?_;clear hxc;intro wx hwx;obtain⟨x,hx⟩:=hwx;have hb:=x.below;rw[←hx] at hb;clear hx x;have hr':=Lib.hid (hr.out.below hb hgl);have hkp':=Lib.hid (hkp.out.trans (KeptBut.of_below hb) (fun _ _ h=>h));clear p0 p1 p2 p3 q0 q1 q2 q3 hb hc
    have hst:compL eqE (l.take (kp+1+1))=l.take (kp+1):=by rw[hsn.out];simp
    replace hst:=Lib.hid hst;go_wp2_with fail
    try rw[hM]
    go_loopw [5,7] (fun kv tv ws=>∃(q kc:Nat) (L:List Ent),kp+1+(q+1)≤N∧kv=.int .i64 (kc:Nat)∧tv=.int .i64 ((q+1:Nat):Int)∧SRow ws g cap L.toArray∧L.length=N∧kc≤kp+1+q∧L.take kc=compL eqE (l.take (kp+1+(q+1)))∧(∀t,kp+1+q≤t→L[t]? = l[t]?)∧KeptBut w ws (fun k=>k=g)) (fun _ tv _=>N-(intOf tv).toNat)
    case atStart=>exact⟨0,kp+1,l,by omega,by go_num,by go_num,hr'.out,hN,by omega,hst.out.symm,fun _ _=>rfl,hkp'.out⟩
    case round =>
     clear hr hkp hr' hkp' hst hsn hx1 hx0 heq hgl;obtain⟨q,kc,L,hqN,rfl,rfl,hr,hLn,hkc,hpre,hfar,hkp⟩:=hrel;have hgl:=hr.lt
     by_cases hlt2:q+1<M
     ·have hlt2':((q+1:Nat):Int)<M:=by omega
      have hq1:kp+1+(q+1)<l.length:=by omega
      have hq0:kp+1+q<l.length:=by omega
      have hsn:=compL_snoc eqE l (kp+1+(q+1)) (by omega) hq1;simp only[show kp+1+(q+1)-1=kp+1+q by omega] at hsn
      have f1:L.toArray[kp+1+(q+1)]! = l[kp+1+(q+1)]:=by
       rw[toA_get L _ (by omega)];have:=hfar (kp+1+(q+1)) (by omega);rw[List.getElem?_eq_getElem (by omega),List.getElem?_eq_getElem hq1] at this;injection this
      have f0:L.toArray[kp+1+q]! = l[kp+1+q]:=by
       rw[toA_get L _ (by omega)];have:=hfar (kp+1+q) (by omega);rw[List.getElem?_eq_getElem (by omega),List.getElem?_eq_getElem hq0] at this;injection this
      obtain⟨p0,p1,p2,p3⟩:=hr.at_ (i:=kp+1+(q+1)) (by rw[List.size_toArray];omega);obtain⟨q0,q1,q2,q3⟩:=hr.at_ (i:=kp+1+q) (by rw[List.size_toArray];omega);obtain⟨x1,hx1⟩:∃x1,l[kp+1+(q+1)]=x1:=⟨_,rfl⟩;obtain⟨x0,hx0⟩:∃x0,l[kp+1+q]=x0:=⟨_,rfl⟩;rw[f1,hx1,Nat.add_mul (kp+1) (q+1) 4] at p0 p1 p2 p3;rw[f0,hx0,Nat.add_mul (kp+1) q 4] at q0 q1 q2 q3;rw[hx1,hx0,←hpre] at hsn;have hc:=(fun x:Ext wr=>hcmp.out x.w (hkp.trans (KeptBut.of_below x.below) (fun _ _ h=>h)) x1 x0);obtain⟨B2,hB2⟩:∃B,eqE x1 x0=B:=⟨_,rfl⟩;rw[hB2] at hsn;simp only[hB2] at hc
      have g1:((q:Int)+1).toNat=q+1:=by omega
      have g2:(q:Int)+1-1=q:=by omega
      have g3:(q:Int)+1<M:=by omega
      have g4:(q:Int)<M:=by omega
      replace hB2:=Lib.hid hB2;replace hc:=Lib.hid hc;replace hsn:=Lib.hid hsn;replace hpre:=Lib.hid hpre;replace hfar:=Lib.hid hfar;replace hr:=Lib.hid hr;replace hkp:=Lib.hid hkp;replace hx1:=Lib.hid hx1;replace hx0:=Lib.hid hx0;clear f1 f0
      cases B2 with
      | true =>
       go_wp2_with fail
       have hxc:=@Ext.cell;refine wp_region_ext (by kernel_rfl) (by kernel_rfl) ?_
       repeat (go_big_quiet_step ((first | (go_at_call 98;exact Calls.ext ((hc.out _))))))
       refine wpQuiet_nil ?_;clear hxc;intro wx hwx;obtain⟨x,hx⟩:=hwx;have hb:=x.below;rw[←hx] at hb;clear hx x;have hr':=Lib.hid (hr.out.below hb hgl);have hkp':=Lib.hid (hkp.out.trans (KeptBut.of_below hb) (fun _ _ h=>h));clear p0 p1 p2 p3 q0 q1 q2 q3 hb hc
       have hst:L.take kc=compL eqE (l.take (kp+1+(q+1+1))):=by
        have:=hsn.out;rw[show kp+1+(q+1+1)=kp+1+(q+1)+1 by omega,this];simp
       replace hst:=Lib.hid hst;go_wp2_with fail
       exact⟨⟨q+1,kc,L,by omega,rfl,by go_num,hr'.out,hLn,by omega,hst.out,fun t ht=>hfar.out t (by omega),hkp'.out⟩,by simp[intOf];omega⟩
      | false =>
       have kci:(kc:Int)<N:=by omega
       have kcn:¬((kc:Int)<0):=by omega
       go_wp2_with fail
       have hxc:=@Ext.cell;refine wp_region_ext (by kernel_rfl) (by kernel_rfl) ?_
       repeat (go_big_quiet_step ((first | (go_at_call 98;exact Calls.ext ((hc.out _))))))
       refine wpQuiet_nil ?_;clear hxc;intro wx hwx;obtain⟨x,hx⟩:=hwx;have hb:=x.below;rw[←hx] at hb;clear hx x;have hr':=hr.out.below hb hgl;have hkp':=Lib.hid (hkp.out.trans (KeptBut.of_below hb) (fun _ _ h=>h));have p0':=(hb.cell (p:=⟨g,(kp+1)*4+(q+1)*4,none⟩) hgl).trans p0;have p1':=(hb.cell (p:=⟨g,(kp+1)*4+(q+1)*4+1,none⟩) hgl).trans p1;have p2':=(hb.cell (p:=⟨g,(kp+1)*4+(q+1)*4+2,none⟩) hgl).trans p2;have p3':=(hb.cell (p:=⟨g,(kp+1)*4+(q+1)*4+3,none⟩) hgl).trans p3;clear p0 p1 p2 p3 q0 q1 q2 q3 hb hc;obtain⟨r0,r1,r2,r3⟩:=hr'.at_ (i:=kc) (by rw[List.size_toArray];omega);have hf:=hr'.frz;have hgl':=hr'.lt;replace hr':=Lib.hid hr';go_wp2_with fail
       have es:(L.set kc x1).toArray=L.toArray.setIfInBounds kc x1:=by simp
       have hr2:=hr'.out.lay kc x1;rw[←es] at hr2;unfold lay4 at hr2;have hk2:KeptBut w (lay4 wx g kc x1) (fun k=>k=g):=hkp'.out.lay4 rfl;unfold lay4 at hk2
       have ht2:(L.set kc x1).take (kc+1)=compL eqE (l.take (kp+1+(q+1+1))):=by
        have:=hsn.out;rw[show kp+1+(q+1+1)=kp+1+(q+1)+1 by omega,this,List.take_succ_eq_append_getElem (by rw[List.length_set];omega),List.take_set_of_le (Nat.le_refl _)];simp
       exact⟨⟨q+1,kc+1,L.set kc x1,by omega,by go_num,by go_num,hr2,by rw[List.length_set];exact hLn,by omega,ht2,fun t ht=>by rw[List.getElem?_set_ne (by omega)];exact hfar.out t (by omega),hk2⟩,by simp[intOf];omega⟩
     ·have hlt2':¬((q+1:Nat):Int)<M:=by omega
      have hkN:kc<N:=by omega
      have hcapk:¬cap=kc:=by omega
      have hall:l.take (kp+1+(q+1))=l:=List.take_of_length_le (by omega);rw[hall,hres] at hpre
      have hlen:res.length=kc:=by rw[←hpre,List.length_take];omega
      obtain⟨wc,hrun,hrc,hkc2⟩:=hr.clear kc (N-kc) (by rw[List.size_toArray];omega) (by omega) (cap-kc) 0;have hkp2:=Lib.hid (hkp.trans (hkc2 (fun k=>k=g) rfl) (fun _ _ h=>h));rw[show L.toArray.extract 0 kc=res.toArray by rw[←hpre];simp] at hrc;replace hrc:=Lib.hid hrc;replace hkc2:=Lib.hid hkc2;replace hpre:=Lib.hid hpre;replace hfar:=Lib.hid hfar;replace hr:=Lib.hid hr;replace hkp:=Lib.hid hkp
      go_wp2_with (at_builtin;refine wpList_clear_run _ rfl _ _ rfl _ rfl _ _ hrun ?_)
      go_ret
      exact⟨rfl,hrc.out,hkp2.out⟩
  ·obtain rfl:k=N:=by omega
   have hlt':¬(k:Int)<k:=by omega
   rw[List.take_of_length_le (by omega),hres] at heq;subst heq;go_wp2_with fail
   go_ret
   exact⟨rfl,hr,hkp⟩
set_option maxRecDepth 100000 in
set_option maxHeartbeats 1000000 in
theorem Ins_nil (F:Value)(w:World):Calls Tryz.prog 175 #[.slice none 0 0,.int .i64 0,.int .i64 0,F] w fun e w'=>e=.returned (.tuple #[])∧w=w':=by
 go_enter Tryz.func175,Tryz.ntmps175
 go_wp2_with fail
 go_loopw [8] (fun iv wr=>iv=.int .i64 1∧w=wr) (fun _ _=>0)
 case atStart=>exact⟨rfl,rfl⟩
 case round =>
  obtain⟨rfl,rfl⟩:=hrel;go_wp2_with fail
  go_end0
  exact⟨rfl,rfl⟩
set_option maxRecDepth 100000 in
set_option maxHeartbeats 1000000 in
theorem Stb_nil (F:Value)(w:World):Calls Tryz.prog 138 #[.slice none 0 0,.int .i64 0,F] w fun e w'=>e=.returned (.tuple #[])∧w=w':=by
 have hi:=Lib.hid (Ins_nil F w)
 go_enter Tryz.func138,Tryz.ntmps138
 go_wp2_with fail
 go_loopw [7,8] (fun av bv wr=>av=.int .i64 0∧bv=.int .i64 20∧w=wr) (fun _ _ _=>0)
 case atStart=>exact⟨rfl,rfl,rfl⟩
 case round =>
  obtain⟨rfl,rfl,rfl⟩:=hrel;go_wp2_with fail
  refine hi.out.mono ?_;rintro e w1 ⟨rfl,rfl⟩;go_wp2_with fail
  go_loopw [6,7,8,9] (fun zv _ _ _ wr=>zv=.int .i64 20∧w=wr) (fun _ _ _ _ _=>0)
  case atStart=>exact⟨rfl,rfl⟩
  case round =>
   obtain⟨rfl,rfl⟩:=hrel;go_wp2_with fail
   go_end0
   exact⟨rfl,rfl⟩
set_option maxRecDepth 100000 in
set_option maxHeartbeats 1000000 in
theorem SortS_nil (F:Value)(w:World):Calls Tryz.prog 96 #[.slice none 0 0,F] w fun e w'=>e=.returned (.tuple #[])∧w=w':=by
 have hs:=Lib.hid (Stb_nil F w)
 go_enter Tryz.func96,Tryz.ntmps96
 go_wp2_with fail
 refine hs.out.mono ?_;rintro e w1 ⟨rfl,rfl⟩;go_wp2_with fail
 go_end0
 exact⟨rfl,rfl⟩
set_option maxRecDepth 100000 in
set_option maxHeartbeats 1000000 in
theorem Comp_nil (F:Value)(w:World):Calls Tryz.prog 97 #[.slice none 0 0,F] w fun e w'=>e=.returned (.slice none 0 0)∧w=w':=by
 go_enter Tryz.func97,Tryz.ntmps97
 go_wp2_with fail
 go_ret
 exact⟨rfl,rfl⟩
def mergeE (l:List Ent):List Ent:=compL eqE (stableL ltE l)
theorem mergeE_nil:mergeE []=[]:=by
 unfold mergeE;rw[(stableL_perm swo_ltE []).eq_nil];rfl
theorem mergeE_strict (l:List Ent):(mergeE l).Pairwise fun x y=>ltE x y=true:=compL_strict swo_ltE eqE (fun x p=>ordE_eq x p) _ (stableL_sorted swo_ltE l)
theorem mergeE_mem {l:List Ent}{e:Ent}(h:e∈mergeE l):e∈l:=(stableL_perm swo_ltE l).subset ((compL_sub eqE _).subset h)
theorem mergeE_len (l:List Ent):(mergeE l).length≤l.length:=by
 have h1:=compL_len eqE (stableL ltE l);rw[(stableL_perm swo_ltE l).length_eq] at h1;exact h1
set_option maxRecDepth 100000 in
set_option maxHeartbeats 4000000 in
theorem sorted_one {w:World}{b c:Nat}{A:Option Addr}{l:List Ent}(hb:Blk w b 44 #[.slice A l.length c])(hr:Reads w w.heap.size 4 A l.length (entsF l))(hl:l.length≤100000) :
  Calls Tryz.prog 65 #[.func (.func 66) #[] #[],.slice (some ⟨b,0,none⟩) 1 1] w fun e w'=>∃v,e=.returned v∧OwnF w' w.heap.size v (mergeE l)∧Below w.heap.size w w':=by
 obtain⟨w0,hw0⟩:∃w0,w0=w.alloc (.cells #[.func (.func 66) #[] #[]] 114):=⟨_,rfl⟩
 have hb0:Below w.heap.size w w0:=by rw[hw0];exact (Below.refl _ _).alloc (Nat.le_refl _) _
 have hfb:Blk w0 w.heap.size 114 #[.func (.func 66) #[] #[]]:=by rw[hw0];exact Blk.new w _ _
 have hz0:w0.heap.size=w.heap.size+1:=by rw[hw0];simp
 have hcc:=Lib.hid (Concat_one (hb.below hb0 hb.lt) (Reads.more (hr.below hb0) (by omega)) hl);replace hb:=Lib.hid hb;replace hr:=Lib.hid hr;replace hb0:=Lib.hid hb0
 go_enter Tryz.func65,Tryz.ntmps65
 go_wp2_with fail
 rw[←hw0];replace hw0:=Lib.hid hw0;refine hcc.out.mono ?_;rintro e w1 ⟨v1,rfl,ho1,hb1⟩;have hz1:=hb1.size;have hfb1:=hfb.below hb1 hfb.lt;have c0:w1.cell? ⟨w.heap.size,0,none⟩=some (.func (.func 66) #[] #[]):=hfb1.cell 0
 have hfl:w.heap.size<w1.heap.size:=by omega
 have hbw1:=hb0.out.trans (hb1.mono (by omega));rcases ho1 with⟨rfl,rfl⟩ | ⟨g,cap,rfl,hg,hcm,hrow⟩
 ·have h1:=Lib.hid (SortS_nil (.func (.func 66) #[] #[]) w1);have h2:=Lib.hid (Comp_nil (.func (.func 98) #[] #[.pointer (some ⟨w.heap.size,0,none⟩)]) w1);replace hbw1:=Lib.hid hbw1;go_wp2_with fail
  refine h1.out.mono ?_;rintro e w2 ⟨rfl,rfl⟩;go_wp2_with fail
  refine h2.out.mono ?_;rintro e w2 ⟨rfl,rfl⟩;go_wp2_with fail
  go_ret
  exact⟨_,rfl,.inl ⟨rfl,mergeE_nil⟩,hbw1.out⟩
 ·have h1:=SortS_any hrow (by simpa using hl);rw[List.size_toArray] at h1;replace h1:=Lib.hid h1;replace hrow:=Lib.hid hrow;replace hbw1:=Lib.hid hbw1;go_wp2_with fail
  refine h1.out.mono ?_;rintro e w2 ⟨rfl,hr2,hk2⟩
  have hgne:w.heap.size≠g:=by omega
  have hfb2:=hfb1.keptB hk2 hgne;have hsl:(stableL ltE l).length=l.length:=(stableL_perm swo_ltE l).length_eq;have hr2':SRow w2 g cap (stableL ltE l).toArray:=hr2;have h2:=Comp_any hr2' hfb2 (by omega);rw[hsl] at h2;have hz2:=hk2.size;have hbw2:=hbw1.out.trans (hk2.below (B:=w.heap.size) (fun j hj=>by omega) (by omega));replace h2:=Lib.hid h2;replace hbw2:=Lib.hid hbw2;clear hr2 hr2' hk2 h1 hfb2;go_wp2_with fail
  refine h2.out.mono ?_;rintro e w3 ⟨rfl,hr3,hk3⟩;have hbw3:=Lib.hid (hbw2.out.trans (hk3.below (B:=w.heap.size) (fun j hj=>by omega) (by omega)));replace hr3:=Lib.hid hr3;clear hk3;go_wp2_with fail
  go_ret
  exact⟨_,rfl,.inr ⟨g,cap,rfl,by omega,hcm,hr3.out⟩,hbw3.out⟩
set_option maxRecDepth 100000 in
set_option maxHeartbeats 1000000 in
theorem Merge_one {w:World}{b c:Nat}{A:Option Addr}{l:List Ent}(hb:Blk w b 44 #[.slice A l.length c])(hr:Reads w w.heap.size 4 A l.length (entsF l))(hl:l.length≤100000) :
  Calls Tryz.prog 39 #[.slice (some ⟨b,0,none⟩) 1 1] w fun e w'=>∃v,e=.returned v∧OwnF w' w.heap.size v (mergeE l)∧Below w.heap.size w w':=by
 have hs:=Lib.hid (sorted_one hb hr hl)
 go_enter Tryz.func39,Tryz.ntmps39
 go_wp2_with fail
 refine hs.out.mono ?_;rintro e w1 ⟨v,rfl,ho,hb1⟩;replace ho:=Lib.hid ho;replace hb1:=Lib.hid hb1;go_wp2_with fail
 go_ret
 exact⟨_,rfl,ho.out,hb1.out⟩
end Go.Proofs.YtlpojfgeocpkeaaGreatDoor
namespace Go.Proofs.YtlpojfgeocpkeaaGreatDoor
open Go.RowKit
set_option linter.unusedVariables false
set_option linter.unusedSimpArgs false
theorem at_plain {w:World}{a:Addr}{v:Value}(h:w.cell? (a.add 0)=some v):∃b o,a=⟨b,o,none⟩:=by
 obtain⟨b,o,s⟩:=a
 cases s with
 | none=>exact⟨b,o,rfl⟩
 | some f =>
  exfalso
  unfold Addr.add World.cell? at h
  split at h<;>(try split at h)<;>simp_all
theorem add_flat (b o n:Nat):(⟨b,o,none⟩:Addr).add n=⟨b,o+n,none⟩:=by unfold Addr.add;split<;>simp_all
end Go.Proofs.YtlpojfgeocpkeaaGreatDoor
namespace Go.Proofs.YtlpojfgeocpkeaaGreatDoor
open Go.RowKit Go.Sort
set_option linter.unusedVariables false
set_option linter.unusedSimpArgs false
def fitsE (e:Ent):Bool:=decide (0<e.key.length)&&decide (e.key.length≤64)&&decide (e.value.length≤512)&&(!e.gone||decide (e.value=[]))&&decide (0<e.seq)&&decide (e.seq≤9223372036854775808)
set_option maxRecDepth 100000 in
set_option maxHeartbeats 4000000 in
theorem fits_any (e:Ent)(hk:e.key.length≤1000000000)(hv:e.value.length≤1000000000)(hs:e.seq<18446744073709551616)(w:World) :
  Calls Tryz.prog 38 #[.agg #[.string (bs e.key),.string (bs e.value),.int .u64 (e.seq:Nat),.bool e.gone]] w fun r w'=>r=.returned (.bool (fitsE e))∧Below w.heap.size w w':=by
 have k1:(bs e.key).size=e.key.length:=bs_size _;have k2:(bs e.value).size=e.value.length:=bs_size _;have k3:(bs e.value).toList=e.value:=bs_toList _;obtain⟨R,hR⟩:∃R,fitsE e=R:=⟨_,rfl⟩;rw[hR];unfold fitsE at hR;replace hR:=Lib.hid hR
 go_enter Tryz.func38,Tryz.ntmps38
 go_wp2_with fail
 all_goals (go_ret;refine⟨?_,(Below.refl _ _).alloc (Nat.le_refl _) _⟩;rw[←hR.out];clear hR)
 all_goals (simp_all)
 all_goals (try omega)
 ·have a1:e.key.length≤64:=by omega
  rw[decide_eq_true a1,Bool.true_and];exact decide_eq_decide.2 (by omega)
 ·have a1:e.key.length≤64:=by omega
  have a2:e.value.length≤512:=by omega
  rw[decide_eq_true a1,decide_eq_true a2,Bool.true_and,Bool.true_and];exact decide_eq_decide.2 (by omega)
structure EL where
 l:List Ent
 A:Option Addr
 c:Nat
def elV (x:EL):List Value:=[.slice x.A x.l.length x.c]
structure LsAt (w:World)(N:Nat)(A:Option Addr)(ls:List EL):Prop where
 row:Reads w N 1 A ls.length (ls.flatMap elV)
 each:∀x∈ls,Reads w N 4 x.A x.l.length (entsF x.l)∧∀e∈x.l,e.seq<18446744073709551616
theorem LsAt.below {w w':World}{N:Nat}{A:Option Addr}{ls:List EL}(h:LsAt w N A ls)(hb:Below N w w'):LsAt w' N A ls:=⟨h.row.below hb,fun x hx=>⟨(h.each x hx).1.below hb,(h.each x hx).2⟩⟩
theorem elV_at:∀(ls:List EL) (i:Nat) (x:EL),ls[i]? = some x→(ls.flatMap elV)[i]? = some (.slice x.A x.l.length x.c)
 | [],i,x,h=>by simp at h
 | y::l,0,x,h=>by simp at h;subst h;simp[elV]
 | y::l,i+1,x,h=>by
  have:=elV_at l i x (by simpa using h)
  simpa[elV] using this
theorem LsAt.at_ {w:World}{N:Nat}{A:Option Addr}{ls:List EL}(h:LsAt w N A ls){i:Nat}{x:EL}(hx:ls[i]? = some x):∃b o,A=some ⟨b,o,none⟩∧b<N∧w.cell? ⟨b,o+i,none⟩=some (.slice x.A x.l.length x.c):=by
 have hi:i<ls.length:=(List.getElem?_eq_some_iff.1 hx).1;obtain⟨ad,e,hb,hc⟩:=h.row.2 (by omega);have h0:=hc i _ (elV_at ls i x hx);have h00:=hc 0 _ (elV_at ls 0 _ (List.getElem?_eq_getElem (by omega)));obtain⟨bb,oo,rfl⟩:=at_plain h00;rw[Addr.add_lit] at h0;exact⟨bb,oo,e,hb,h0⟩
theorem ent_at {w:World}{N:Nat}{A:Option Addr}{l:List Ent}(h:Reads w N 4 A l.length (entsF l)){k:Nat}{e:Ent}(he:l[k]? = some e):∃b o,A=some ⟨b,o,none⟩∧b<N∧w.cell? ⟨b,o+k*4,none⟩=some (.string (bs e.key))∧w.cell? ⟨b,o+k*4+1,none⟩=some (.string (bs e.value)) ∧
  w.cell? ⟨b,o+k*4+2,none⟩=some (.int .u64 (e.seq:Nat))∧w.cell? ⟨b,o+k*4+3,none⟩=some (.bool e.gone):=by
 have hk:k<l.length:=(List.getElem?_eq_some_iff.1 he).1;obtain⟨ad,e1,hb,hc⟩:=h.2 (by omega);obtain⟨h0,h1,h2,h3⟩:=entsF_at l k e he;obtain⟨g0,_,_,_⟩:=entsF_at l 0 _ (List.getElem?_eq_getElem (by omega));obtain⟨bb,oo,rfl⟩:=at_plain (hc 0 _ g0);refine⟨bb,oo,e1,hb,?_,?_,?_,?_⟩
 ·have:=hc _ _ h0;rwa [Addr.add_lit] at this
 ·have:=hc _ _ h1;rwa [Addr.add_lit] at this
 ·have:=hc _ _ h2;rwa [Addr.add_lit] at this
 ·have:=hc _ _ h3;rwa [Addr.add_lit] at this
end Go.Proofs.YtlpojfgeocpkeaaGreatDoor
