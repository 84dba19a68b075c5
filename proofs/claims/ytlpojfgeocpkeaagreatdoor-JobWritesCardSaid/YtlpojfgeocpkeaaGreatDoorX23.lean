/- table.Builder: Add of an entry that may not come; Add. Contracts: bloom: Hash. Package bloom, plain. Contracts: bloom: probes. Contracts: bloom: May. Contracts: bloom: Make. Package table, plain: how a table's bytes are read. -/
import Derived.Test.YtlpojfgeocpkeaaGreatDoorTAdAJ
import Derived.Test.YtlpojfgeocpkeaaGreatDoorTAdBJ
import Derived.Test.YtlpojfgeocpkeaaGreatDoorTAdCJ
import Derived.Test.YtlpojfgeocpkeaaGreatDoorTCrcJ
import Derived.Test.YtlpojfgeocpkeaaGreatDoorX01
import Derived.Test.YtlpojfgeocpkeaaGreatDoorX00
import Derived.Test.YtlpojfgeocpkeaaGreatDoorX15
import Derived.Test.YtlpojfgeocpkeaaGreatDoorX18
namespace Go.Proofs.YtlpojfgeocpkeaaGreatDoor
open Go.RowKit
set_option linter.unusedVariables false
set_option linter.unusedSimpArgs false
set_option maxRecDepth 100000 in
set_option maxHeartbeats 4000000 in
theorem TAdd_err {w:World}{F:Nat→Prop}{g:Nat}{s:TB}(h:TBIn w F g s)(hG:Gl w)(e:Ent)(he:s.err e≠0)(hsq:e.seq<18446744073709551616) :
  Calls Tryz.prog 72 #[.pointer (some ⟨g,0,none⟩),.agg (entC e)] w fun r w'=>r=.returned (.tuple #[.string ⟨#[]⟩,.int .i64 (s.err e:Nat)])∧Below w.heap.size w w':=by
 obtain⟨vb1,vs1,vb2,vs2,vk,vp,hT,hF⟩:=h;have hA:Below w.heap.size w (w.alloc (.cells (entC e) 46)):=(Below.refl _ _).alloc (Nat.le_refl _) _;have hlt:=hT.blk.lt
 rcases hdn:s.done with _ | _
 ·have c20:w.cell? ⟨g,20,none⟩=some (.bool false):=(hT.blk.cell 20).trans (by simp[tbC,hdn])
  by_cases hlen:64<e.key.length∨512<e.value.length
  ·have hR:s.err e=3:=by unfold TB.err;rw[hdn];simp only[Bool.false_eq_true,if_false];rw[if_pos hlen]
   rw[hR]
   by_cases h64:64<e.key.length
   ·have hlk:((64:Int)<((bs e.key).size:Nat)):=by rw[bs_size];omega
    replace hdn:=Lib.hid hdn;replace hR:=Lib.hid hR;unfold entC;unfold entC at hA
    go_enter Tryz.func72,Tryz.ntmps72
    go_wp2_with fail
    go_ret2
    exact⟨rfl,hA⟩
   ·have hlk:¬((64:Int)<((bs e.key).size:Nat)):=by rw[bs_size];omega
    have hlv:((512:Int)<((bs e.value).size:Nat)):=by rw[bs_size];omega
    replace hdn:=Lib.hid hdn;replace hR:=Lib.hid hR;unfold entC;unfold entC at hA
    go_enter Tryz.func72,Tryz.ntmps72
    go_wp2_with fail
    go_ret2
    exact⟨rfl,hA⟩
  ·have hE:=he;unfold TB.err at hE;rw[hdn] at hE;simp only[Bool.false_eq_true,if_false] at hE;rw[if_neg hlen] at hE
   have hbd:s.bad e=true:=by
    rcases hq:s.bad e with _ | _
    ·rw[hq] at hE;exact absurd rfl hE
    ·rfl
   have hR:s.err e=1:=by unfold TB.err;rw[hdn];simp only[Bool.false_eq_true,if_false];rw[if_neg hlen,hbd];rfl
   rw[hR];have hbad:=bad_any (hT.below hA) (hG.below hA hG.lt) e (by omega) hsq;rw[hbd] at hbad
   have hlk:¬((64:Int)<((bs e.key).size:Nat)):=by rw[bs_size];omega
   have hlv:¬((512:Int)<((bs e.value).size:Nat)):=by rw[bs_size];omega
   replace hdn:=Lib.hid hdn;replace hR:=Lib.hid hR;replace hbd:=Lib.hid hbd;unfold entC at hbad hA;replace hbad:=Lib.hid hbad;unfold entC;clear hE
   go_enter Tryz.func72,Tryz.ntmps72
   go_wp2_with fail
   refine hbad.out.mono ?_;rintro r w1 ⟨rfl,hb1⟩;go_wp2_with fail
   go_ret2
   exact⟨rfl,hA.trans (hb1.mono hA.size)⟩
 ·have c20:w.cell? ⟨g,20,none⟩=some (.bool true):=(hT.blk.cell 20).trans (by simp[tbC,hdn])
  have hR:s.err e=9:=by unfold TB.err;rw[hdn];rfl
  rw[hR];replace hdn:=Lib.hid hdn;replace hR:=Lib.hid hR;unfold entC;unfold entC at hA
  go_enter Tryz.func72,Tryz.ntmps72
  go_wp2_with fail
  go_ret2
  exact⟨rfl,hA⟩
structure TBd (s:TB)(M:Nat):Prop where
 b:s.data.b.length≤524288
 st:s.data.starts.length≤524288
 se:∀n∈s.data.starts,n≤524288
 ct:s.data.count≤524288
 la:s.data.last.length≤1048576
 ib:s.index.b.length≤M*200
 is_:s.index.starts.length≤M
 ic:s.index.count≤M
 il:s.index.last.length≤1048576
 at_:s.at_≤M*2000
 pl:s.parts.length≤M
 kl:s.keys.length≤M
 tc:s.t.count≤M
 lz:s.t.count=0→s.t.last=[]
theorem key_ne {s:TB}{e:Ent}(he:s.err e=0)(hl:s.t.last=[]):s.t.last≠e.key:=by
 intro h
 have hk:e.key=[]:=by rw[←h];exact hl
 have hb:s.bad e=true:=by unfold TB.bad;simp[hk]
 unfold TB.err at he;rw[hb] at he
 split at he
 ·cases he
 ·split at he
  ·cases he
  ·cases he
theorem TAdd_any {w:World}{F:Nat→Prop}{g:Nat}{s:TB}(h:TBIn w F g s)(hG:Gl w)(e:Ent)(hsq:e.seq<18446744073709551616){M:Nat}(hM:M≤1073741824)(hb:TBd s M) :
  Calls Tryz.prog 72 #[.pointer (some ⟨g,0,none⟩),.agg (entC e)] w fun r w'=>r=.returned (.tuple #[.string (bs (s.add e).2),.int .i64 (s.err e:Nat)])∧TBIn w' (Fx F w w') g (s.add e).1∧KeptBut w w' F:=by
 obtain⟨p1,p2,p3,p4,p5,p6,p7,p8,p9,p10,p11,p12,p13,p14⟩:=hb
 by_cases he:s.err e=0
 ·rw[he]
  by_cases hc:s.t.count=0
  ·by_cases hl:s.t.last=e.key
   ·exact absurd hl (key_ne he (p14 hc))
   ·exact TAdd_A h hG e he p1 p2 p3 p4 p5 (by omega) (by omega) (by omega) p9 (by omega) (by omega) (by omega) (by omega) hc hl
  ·by_cases hl:s.t.last=e.key
   ·exact TAdd_C h hG e he p1 p2 p3 p4 p5 (by omega) (by omega) (by omega) p9 (by omega) (by omega) (by omega) (by omega) hc hl
   ·exact TAdd_B h hG e he p1 p2 p3 p4 p5 (by omega) (by omega) (by omega) p9 (by omega) (by omega) (by omega) (by omega) hc hl
 ·have hR:s.add e=(s,[]):=by unfold TB.add;rw[if_neg he]
  rw[hR];refine (TAdd_err h hG e he hsq).mono ?_;rintro r w' ⟨rfl,hb⟩;exact⟨rfl,(h.below hb).more (fun k q=>.inl q),KeptBut.of_below hb⟩
def hashStep (h:Nat)(c:UInt8):Nat:=(h ^^^ c.toNat)*1099511628211 % 18446744073709551616
def hashL (l:List UInt8):Nat:=l.foldl hashStep 14695981039346656037
theorem hashStep_lt (h:Nat)(c:UInt8):hashStep h c<18446744073709551616:=Nat.mod_lt _ (by decide)
theorem hashF_lt (l:List UInt8):∀ {h:Nat},h<18446744073709551616→l.foldl hashStep h<18446744073709551616:=by
 induction l with
 | nil=>exact fun h=>h
 | cons c l ih=>exact fun _=>ih (hashStep_lt _ c)
theorem hashL_lt (l:List UInt8):hashL l<18446744073709551616:=hashF_lt l (by decide)
set_option maxRecDepth 100000 in
set_option maxHeartbeats 4000000 in
theorem Hash_any (s:ByteArray)(w:World)(hsz:s.size≤1099511627776) :
  Calls Tryz.prog 187 #[.string s] w fun e w'=>e=.returned (.int .u64 (hashL s.data.toList:Nat))∧Below w.heap.size w w':=by
 obtain⟨c2,W2,hrun,hbW,hzW,hcells⟩:=conv_bytes w s;replace hbW:=Lib.hid hbW;replace hcells:=Lib.hid hcells
 have hfin:hashL s.data.toList=(s.data.toList.take s.size).foldl hashStep 14695981039346656037:=by
  rw[List.take_of_length_le (by rw[dlen];exact Nat.le_refl _)];rfl
 replace hfin:=Lib.hid hfin
 go_enter Tryz.func187,Tryz.ntmps187
 go_wp2_with fail
 go_loopw [3,9] (fun sv jv wq=>∃j:Nat,j≤s.size∧jv=.int .i64 j∧sv=.int .u64 ((s.data.toList.take j).foldl hashStep 14695981039346656037:Nat)∧W2=wq) (fun _ jv _=>s.size-(intOf jv).toNat)
 case atStart=>exact⟨0,Nat.zero_le _,rfl,rfl,rfl⟩
 case round =>
  obtain⟨j,hj,rfl,rfl,rfl⟩:=hrel
  by_cases hjl:j<s.size
  ·have hjl':(j:Int)<s.size:=by omega
   have hx:=hcells.out j hjl
   have hjd:j<s.data.toList.length:=by rw[dlen];exact hjl
   rw[List.getD_eq_getElem?_getD,List.getElem?_eq_getElem hjd] at hx
   have hsn:(s.data.toList.take (j+1)).foldl hashStep 14695981039346656037=hashStep ((s.data.toList.take j).foldl hashStep 14695981039346656037) s.data.toList[j]:=by
    rw[List.take_succ_eq_append_getElem hjd,List.foldl_append,List.foldl_cons,List.foldl_nil]
   have hlt2:(s.data.toList.take j).foldl hashStep 14695981039346656037<18446744073709551616:=hashF_lt (s.data.toList.take j) (by decide);replace hsn:=Lib.hid hsn
   generalize (s.data.toList.take j).foldl hashStep 14695981039346656037=x0 at *
   generalize s.data.toList[j]=c at *
   unfold B8 at hx;simp only[Option.getD_some] at hx;have k1:bits .xor .u64 (x0:Int) (c.toNat:Nat)=((x0 ^^^ c.toNat:Nat):Int):=u64_xor_nat _ _ hlt2 (by have:=c.toNat_lt;omega);have hcl:=c.toNat_lt
   have kw:IntKind.u64.wrap (((x0 ^^^ c.toNat:Nat):Int)*1099511628211)=((hashStep x0 c:Nat):Int):=by
    rw[IntKind.wrap_u64];unfold hashStep;omega
   replace hlt2:=Lib.hid hlt2;replace kw:=Lib.hid kw;go_wp2_with fail
   refine⟨⟨j+1,by omega,by go_num,congrArg (Value.int .u64) ?_,trivial⟩,by first | omega | (simp only[intOf];omega)⟩
   rw[kw.out,hsn.out]
  ·obtain rfl:j=s.size:=by omega
   have hjl':¬(s.size:Int)<s.size:=by omega
   rw[←hfin.out];go_wp2_with fail
   go_ret
   exact⟨rfl,hbW.out⟩
end Go.Proofs.YtlpojfgeocpkeaaGreatDoor
namespace Go.Proofs.YtlpojfgeocpkeaaGreatDoor
set_option linter.unusedVariables false
set_option linter.unusedSimpArgs false
def stepOf (h:Nat):Nat:=h / 4294967296 ||| 1
def probeL (h m i:Nat):Nat:=((h % 4294967296+i*stepOf h) % 4294967296) % m
def probesL (key:List UInt8)(m:Nat):List Nat:=(List.range 6).map (probeL (hashL key) m)
def bitAt (b:List UInt8)(n:Nat):Bool:=(b.getD (n / 8) 0).toNat / 2 ^ (n % 8) % 2==1
def setBit (b:List UInt8)(n:Nat):List UInt8:=b.set (n / 8) (UInt8.ofNat ((b.getD (n / 8) 0).toNat ||| 2 ^ (n % 8)))
def filterN (k:Nat):Nat:=(max (10*k) 64+7) / 8
def addKey (b:List UInt8)(key:List UInt8):List UInt8:=(probesL key (8*b.length)).foldl setBit b
def filterL (keys:List (List UInt8)):List UInt8:=keys.foldl addKey (List.replicate (filterN keys.length) 0)
def mayL (f key:List UInt8):Bool:=f != []&&(probesL key (8*f.length)).all (bitAt f)
theorem setBit_len (b:List UInt8)(n:Nat):(setBit b n).length=b.length:=by simp[setBit]
theorem testBit_div (x k:Nat):(x / 2 ^ k % 2==1)=x.testBit k:=by
 rw[Nat.testBit_eq_decide_div_mod_eq]
 by_cases h:x / 2 ^ k % 2=1<;>simp[h]
theorem setBit_bit (b:List UInt8)(n m:Nat)(h:n / 8<b.length):bitAt (setBit b n) m=(bitAt b m||decide (n=m)):=by
 unfold bitAt setBit;rw[testBit_div,testBit_div]
 by_cases hd:m / 8=n / 8
 ·rw[List.getD_eq_getElem?_getD,hd,List.getElem?_set_self h,Option.getD_some];have hx:=(b.getD (n / 8) 0).toNat_lt
  generalize (b.getD (n / 8) 0).toNat=x at *
  have hp:2 ^ (n % 8)<2 ^ 8:=Nat.pow_lt_pow_right (by omega) (by omega);have hor:x ||| 2 ^ (n % 8)<2 ^ 8:=Nat.or_lt_two_pow hx hp;rw[UInt8.toNat_ofNat',Nat.mod_eq_of_lt hor,Nat.testBit_or,Nat.testBit_two_pow]
  congr 1
  by_cases he:n=m
  ·subst he;simp
  ·have:¬n % 8=m % 8:=by omega
   simp[he,this]
 ·rw[List.getD_eq_getElem?_getD,List.getElem?_set_ne (fun e=>hd e.symm),←List.getD_eq_getElem?_getD];have:n≠m:=fun e=>hd (by rw[e]);simp[this]
theorem foldl_set_len (l:List Nat):∀b:List UInt8,(l.foldl setBit b).length=b.length:=by
 induction l with
 | nil=>exact fun _=>rfl
 | cons n l ih=>exact fun b=>(ih _).trans (setBit_len b n)
theorem foldl_set_bit (l:List Nat):∀(b:List UInt8) (m:Nat),(∀n∈l,n / 8<b.length)→bitAt (l.foldl setBit b) m=(bitAt b m||decide (m∈l)):=by
 induction l with
 | nil=>intro b m _;simp
 | cons n l ih =>
  intro b m h;rw[List.foldl_cons,ih _ m (fun k hk=>by rw[setBit_len];exact h k (by simp[hk])),setBit_bit b n m (h n (by simp)),Bool.or_assoc]
  congr 1
  by_cases he:n=m
  ·subst he;simp
  ·by_cases hm:m∈l<;>simp[he,hm,Ne.symm he]
theorem addKey_len (b key:List UInt8):(addKey b key).length=b.length:=foldl_set_len _ _
theorem probesL_lt {key:List UInt8}{m:Nat}(hm:0<m):∀n∈probesL key m,n<m:=by
 intro n hn;unfold probesL at hn;rw[List.mem_map] at hn;obtain⟨i,_,rfl⟩:=hn;exact Nat.mod_lt _ hm
theorem addKey_bit {b key:List UInt8}(hb:0<b.length)(m:Nat):bitAt (addKey b key) m=(bitAt b m||decide (m∈probesL key (8*b.length))) :=
 foldl_set_bit _ b m (fun n hn=>by have:=probesL_lt (m:=8*b.length) (by omega) n hn;omega)
theorem foldl_addKey_len (ks:List (List UInt8)):∀b,(ks.foldl addKey b).length=b.length:=by
 induction ks with
 | nil=>exact fun _=>rfl
 | cons k ks ih=>exact fun b=>(ih _).trans (addKey_len b k)
theorem foldl_addKey_mono (ks:List (List UInt8)):∀(b:List UInt8) (m:Nat),0<b.length→bitAt b m=true→bitAt (ks.foldl addKey b) m=true:=by
 induction ks with
 | nil=>exact fun _ _ _ h=>h
 | cons k ks ih =>
  intro b m hb h;exact ih _ m (by rw[addKey_len];exact hb) (by rw[addKey_bit hb,h];rfl)
theorem foldl_addKey_has (ks:List (List UInt8)):∀(b:List UInt8) (key:List UInt8),0<b.length→key∈ks→∀m∈probesL key (8*b.length),bitAt (ks.foldl addKey b) m=true:=by
 induction ks with
 | nil=>intro b key _ h;cases h
 | cons k ks ih =>
  intro b key hb h m hm;rcases List.mem_cons.1 h with rfl | h
  ·exact foldl_addKey_mono ks _ m (by rw[addKey_len];exact hb) (by rw[addKey_bit hb];simp[hm])
  ·exact ih _ key (by rw[addKey_len];exact hb) h m (by rw[addKey_len];exact hm)
theorem filterL_len (keys:List (List UInt8)):(filterL keys).length=filterN keys.length:=by
 unfold filterL;rw[foldl_addKey_len,List.length_replicate]
theorem filterN_pos (k:Nat):8≤filterN k:=by unfold filterN;omega
theorem may_filter {keys:List (List UInt8)}{key:List UInt8}(h:key∈keys):mayL (filterL keys) key=true:=by
 have hl:=filterL_len keys;have hp:=filterN_pos keys.length;unfold mayL;rw[Bool.and_eq_true];refine⟨?_,List.all_eq_true.2 fun m hm=>?_⟩
 ·rw[bne_iff_ne];intro e;rw[e] at hl;simp at hl;omega
 ·rw[hl] at hm;unfold filterL;refine foldl_addKey_has keys _ key (by rw[List.length_replicate];omega) h m ?_;rw[List.length_replicate];exact hm
end Go.Proofs.YtlpojfgeocpkeaaGreatDoor
namespace Go.Proofs.YtlpojfgeocpkeaaGreatDoor
open Go.RowKit
set_option linter.unusedVariables false
set_option linter.unusedSimpArgs false
def pv (f:Nat→Nat)(i j:Nat):Value:=.int .i64 (if j<i then ((f j:Nat):Int) else 0)
def pc (f:Nat→Nat)(i:Nat):Array Value:=#[pv f i 0,pv f i 1,pv f i 2,pv f i 3,pv f i 4,pv f i 5]
theorem pc_set (f:Nat→Nat)(i:Nat)(h:i<6):(pc f i).setIfInBounds i (.int .i64 (f i:Nat))=pc f (i+1):=by
 rcases i with _ | _ | _ | _ | _ | _ | i
 all_goals first | (simp[pc,pv];done) | omega
theorem pc_get (f:Nat→Nat)(i j:Nat)(h:j<6):(pc f i)[j]? = some (pv f i j):=by
 rcases j with _ | _ | _ | _ | _ | _ | j
 all_goals first | rfl | omega
set_option maxRecDepth 100000 in
set_option maxHeartbeats 4000000 in
theorem probes_any (s:ByteArray)(m:Nat)(w:World)(hsz:s.size≤1099511627776)(hm0:0<m)(hm:m≤1099511627776) :
  Calls Tryz.prog 168 #[.string s,.int .i64 (m:Nat)] w fun e w'=>e=.returned (.agg (pc (probeL (hashL s.data.toList) m) 6))∧Below w.heap.size w w':=by
 have hh:=Lib.hid (Hash_any s (w.alloc (.cells #[.int .i64 0,.int .i64 0,.int .i64 0,.int .i64 0,.int .i64 0,.int .i64 0] 226)) hsz);have hlt:=hashL_lt s.data.toList
 generalize hashL s.data.toList=h at *
 have hw1:IntKind.u32.wrap ((h:Nat):Int)=((h % 4294967296:Nat):Int):=by simp[IntKind.wrap,IntKind.bits,IntKind.signed]
 have hdiv:(h:Int) / 4294967296=((h / 4294967296:Nat):Int):=by omega
 have hhi:h / 4294967296<4294967296:=by omega
 have hlo:h % 4294967296<4294967296:=by omega
 have hw2:IntKind.u32.wrap ((h / 4294967296:Nat):Int)=((h / 4294967296:Nat):Int):=by simp[IntKind.wrap,IntKind.bits,IntKind.signed];omega
 have hor:bits .or .u32 ((h / 4294967296:Nat):Int) 1=((stepOf h:Nat):Int):=u32_or_nat _ 1 hhi (by decide);have hst:stepOf h<4294967296:=Nat.or_lt_two_pow (n:=32) hhi (by decide);have hp:∀i,probeL h m i=((h % 4294967296+i*stepOf h) % 4294967296) % m:=fun _=>rfl
 generalize stepOf h=st at *
 generalize h % 4294967296=a0 at *
 generalize h / 4294967296=h2 at *
 generalize probeL h m=f at *
 replace hp:=Lib.hid hp
 go_enter Tryz.func168,Tryz.ntmps168
 go_wp2_with fail
 refine hh.out.mono ?_;rintro e w1 ⟨rfl,hb1⟩;have hz1:=hb1.size;rw[World.size_alloc] at hz1;go_wp2_with fail
 have hB4:Blk w1 w.heap.size 226 (pc f 0):=(Blk.new w 226 (pc f 0)).below hb1 (by rw[World.size_alloc];omega);have hB8:Blk (w1.alloc (.cells (pc f 0) 226)) w1.heap.size 226 (pc f 0):=Blk.new _ _ _;clear hw1 hdiv hw2 hor;replace hlo:=Lib.hid hlo
 go_loopw [6,18] (fun av iv wr=>∃i:Nat,i≤6∧iv=.int .i64 (i:Nat)∧av=.int .u32 (((a0+i*st) % 4294967296:Nat):Int)∧Blk wr w1.heap.size 226 (pc f i)∧Below (w1.heap.size) (w1.alloc (.cells (pc f 0) 226)) wr) (fun _ iv _=>6-(intOf iv).toNat)
 case atStart=>exact⟨0,Nat.zero_le _,rfl,by rw[Nat.zero_mul,Nat.add_zero,Nat.mod_eq_of_lt hlo.out],hB8,Below.refl _ _⟩
 case round =>
  obtain⟨i,hi,rfl,rfl,hB,hbr⟩:=hrel;have hlB:=hB.lt
  by_cases hl6:i<6
  ·have hl6':(i:Int)<6:=by omega
   have hpi:=hp.out i
   have hnx:(a0+(i+1)*st) % 4294967296=((a0+i*st) % 4294967296+st) % 4294967296:=by rw[Nat.succ_mul];omega
   have hatl:(a0+i*st) % 4294967296<4294967296:=Nat.mod_lt _ (by decide)
   generalize (a0+i*st) % 4294967296=at_ at *
   have hwn:IntKind.u32.wrap ((at_:Int)+st)=(((at_+st) % 4294967296:Nat):Int):=by simp[IntKind.wrap,IntKind.bits,IntKind.signed]
   have hfm:f i<m:=by rw[hpi];exact Nat.mod_lt _ hm0
   have hrem:(at_:Int) % (m:Int)=((f i:Nat):Int):=by rw[hpi];omega
   have hcell:wr.cell? ⟨w1.heap.size,i,none⟩=some (pv f i i):=(hB.cell i).trans (pc_get f i i hl6);have hfr:=hB.frozen i;have hset:=hB.set_ i (.int .i64 (f i:Nat));rw[pc_set f i hl6] at hset
   have hmw:IntKind.u64.wrap ((m:Nat):Int)=(m:Nat):=by rw[IntKind.wrap_u64];omega
   replace hpi:=Lib.hid hpi;replace hnx:=Lib.hid hnx;replace hset:=Lib.hid hset;replace hwn:=Lib.hid hwn;go_wp2_with fail
   refine⟨⟨i+1,by omega,by rfl,?_,hset.out,hbr.setCell (Nat.le_refl _) _⟩,by first | omega | (simp only[intOf];omega)⟩
   rw[hnx.out];exact congrArg (Value.int .u32) (by omega)
  ·obtain rfl:i=6:=by omega
   have hB4r:Blk wr w.heap.size 226 (pc f 0):=(hB4.alloc _).below hbr hB4.lt;have hz:=fun j (hj:j<6)=>(hB.cell j).trans ((pc_get f 6 j hj).trans (by unfold pv;rw[if_pos hj]):(pc f 6)[j]? = some (.int .i64 ((f j:Nat):Int)));have z0:=hz 0 (by decide);have z1:=hz 1 (by decide);have z2:=hz 2 (by decide);have z3:=hz 3 (by decide);have z4:=hz 4 (by decide);have z5:=hz 5 (by decide);have hy:=fun j (hj:j<6)=>(hB4r.cell j).trans (pc_get f 0 j hj);have y0:=hy 0 (by decide);have y1:=hy 1 (by decide);have y2:=hy 2 (by decide);have y3:=hy 3 (by decide);have y4:=hy 4 (by decide);have y5:=hy 5 (by decide);have t0:=hB4r.frozen 0;have t1:=hB4r.frozen 1;have t2:=hB4r.frozen 2;have t3:=hB4r.frozen 3;have t4:=hB4r.frozen 4;have t5:=hB4r.frozen 5;have hl4:=hB4r.lt;clear hz hy;have hW:=(((((hB4r.set_ 0 (.int .i64 (f 0:Nat))).set_ 1 (.int .i64 (f 1:Nat))).set_ 2 (.int .i64 (f 2:Nat))).set_ 3 (.int .i64 (f 3:Nat))).set_ 4 (.int .i64 (f 4:Nat))).set_ 5 (.int .i64 (f 5:Nat));rw[show ((((((pc f 0).setIfInBounds 0 (.int .i64 (f 0:Nat))).setIfInBounds 1 (.int .i64 (f 1:Nat))).setIfInBounds 2 (.int .i64 (f 2:Nat))).setIfInBounds 3 (.int .i64 (f 3:Nat))).setIfInBounds 4 (.int .i64 (f 4:Nat))).setIfInBounds 5 (.int .i64 (f 5:Nat))=pc f 6 from by simp[pc,pv]] at hW;have hbw:Below w.heap.size w wr:=(((Below.refl w.heap.size w).alloc (Nat.le_refl _) (.cells (pc f 0) 226)).trans ((hb1.mono (by rw[World.size_alloc];omega)).alloc (by omega) _)).trans (hbr.mono (by omega));have hbz:=(((((hbw.setCell (p:=⟨w.heap.size,0,none⟩) (Nat.le_refl _) (.int .i64 (f 0:Nat))).setCell (p:=⟨w.heap.size,1,none⟩) (Nat.le_refl _) (.int .i64 (f 1:Nat))).setCell (p:=⟨w.heap.size,2,none⟩) (Nat.le_refl _) (.int .i64 (f 2:Nat))).setCell (p:=⟨w.heap.size,3,none⟩) (Nat.le_refl _) (.int .i64 (f 3:Nat))).setCell (p:=⟨w.heap.size,4,none⟩) (Nat.le_refl _) (.int .i64 (f 4:Nat))).setCell (p:=⟨w.heap.size,5,none⟩) (Nat.le_refl _) (.int .i64 (f 5:Nat))
   replace hW:=Lib.hid hW;replace hbz:=Lib.hid hbz;go_wp2_with fail
   exact bodyPost_ret (v:=.agg (pc f 6)) (results_cell_row rfl _ _ w.heap.size 226 (pc f 6) (0,0) _ rfl hW.out Tryz.underlying226 rfl (by kernel_rfl)) rfl ⟨rfl,hbz.out⟩
theorem int_size:∃j,Tryz.prog.info? 3=some j∧j.size=1:=by
 obtain⟨j,hj,hs⟩:=Option.map_eq_some_iff.1 (show (Tryz.prog.info? 3).map (·.size)=some 1 by kernel_rfl);exact⟨j,hj,hs⟩
set_option maxRecDepth 100000 in
theorem index_pc (g:Nat→Nat)(i:Nat)(h:i<6)(w:World):(Instr.index 226 (.agg (pc g 6)) (.int .i64 (i:Nat))).run Tryz.prog w=.ok (.int .i64 ((g i:Nat):Int)) w:=by
 obtain⟨j,hj,hjs⟩:=int_size;have hu:=Tryz.underlying226
 have hi:(0:Int)≤((i:Nat):Int)∧((i:Nat):Int)<6:=by omega
 rcases i with _ | _ | _ | _ | _ | _ | i
 all_goals first | omega | (simp[Instr.index,asIntOf,run_underlying hu,part,sizeOf,typeInfo,hj,hjs,pc,pv];done)
def FB (w:World)(g:Nat)(l:List UInt8):Prop:=Blk w g 5 (l.map B8).toArray
theorem FB.set {w:World}{g:Nat}{l:List UInt8}(h:FB w g l)(i:Nat)(c:UInt8):FB (w.setCell ⟨g,i,none⟩ (B8 c)) g (l.set i c):=by
 have:=Blk.set_ h i (B8 c);unfold FB;rw[List.map_set]
 simpa using this
theorem FB.cell {w:World}{g:Nat}{l:List UInt8}(h:FB w g l)(i:Nat)(hi:i<l.length):w.cell? ⟨g,i,none⟩=some (B8 (l.getD i 0)):=by
 refine (Blk.cell h i).trans ?_;rw[List.getElem?_toArray,List.getElem?_map,List.getD_eq_getElem?_getD,List.getElem?_eq_getElem hi];rfl
theorem made_zero (n:Nat):madeCells (Value.int .u8 0).cells (n*1)=((List.replicate n (0:UInt8)).map B8).toArray:=by
 rw[Nat.mul_one];apply Array.ext
 ·simp[madeCells]
 ·intro i h1 h2;simp[madeCells,B8,Value.cells,Nat.mod_one] at h1 ⊢
theorem make_bytes (w:World)(n:Nat)(hn:n≤2147483648):(Instr.makeSlice 81 (.int .i64 (n:Nat)) (.int .i64 (n:Nat))).run Tryz.prog w=.ok (.slice (some ⟨w.heap.size,0,none⟩) n n) (w.alloc (.cells ((List.replicate n (0:UInt8)).map B8).toArray 5)):=by
 obtain⟨i0,hi0,hz0,hz1,hz2⟩:=info_parts u8_info;have:=run_make (P:=Tryz.prog) w 81 5 i0 (.int .u8 0) Tryz.underlying81 hi0 hz0 .i64 .i64 (n:Nat) (n:Nat) (by omega) (Int.le_refl _) (by rw[hz2];omega) (by omega);rw[hz1,Int.toNat_natCast,made_zero] at this;exact this
set_option maxRecDepth 100000 in
set_option maxHeartbeats 4000000 in
theorem Make_any (A:Option Addr)(ss:List ByteArray)(cap:Nat)(w:World)(hr:Reads w w.heap.size 1 A ss.length (ss.map .string))(hlen:ss.length≤1073741824)(hs:∀s∈ss,s.size≤1099511627776) :
  Calls Tryz.prog 126 #[.slice A ss.length cap] w fun e w'=>e=.returned (.string (bs (filterL (ss.map fun s=>s.data.toList))))∧Below w.heap.size w w':=by
 have hn1:(max (10*((ss.length:Nat):Int)) 64+7) / 8=((filterN ss.length:Nat):Int):=by unfold filterN;omega
 have hnp:=filterN_pos ss.length
 have hnb:filterN ss.length≤1342177288:=by unfold filterN;omega
 have hfl:filterL (ss.map fun s=>s.data.toList)=(ss.map fun s=>s.data.toList).foldl addKey (List.replicate (filterN ss.length) 0):=by unfold filterL;rw[List.length_map]
 generalize filterN ss.length=n at *
 replace hr:=Lib.hid hr;replace hs:=Lib.hid hs;replace hfl:=Lib.hid hfl
 go_enter Tryz.func126,Tryz.ntmps126
 have hmk:=make_bytes w n (by omega);obtain⟨z0,hz0⟩:∃z,z=((List.replicate n (0:UInt8)).map B8).toArray:=⟨_,rfl⟩;rw[←hz0] at hmk;replace hz0:=Lib.hid hz0;go_wp2_with fail
 clear hn1 hmk
 have hF0:FB (w.alloc (.cells z0 5)) w.heap.size (List.replicate n 0):=by rw[hz0.out];exact Blk.new _ _ _
 have hB0:Below w.heap.size w (w.alloc (.cells z0 5)):=(Below.refl _ _).alloc (Nat.le_refl _) _
 generalize w.alloc (.cells z0 5)=W0 at *
 go_loopw [17] (fun iv wr=>∃i:Nat,i≤ss.length∧iv=.int .i64 (i:Nat)∧FB wr w.heap.size (((ss.take i).map fun s=>s.data.toList).foldl addKey (List.replicate n 0))∧Below w.heap.size w wr) (fun iv _=>ss.length-(intOf iv).toNat)
 case atStart=>exact⟨0,Nat.zero_le _,rfl,hF0,hB0⟩
 case round =>
  obtain⟨i,hi,rfl,hF,hbr⟩:=hrel
  have hll:(((ss.take i).map fun s=>s.data.toList).foldl addKey (List.replicate n 0)).length=n:=by rw[foldl_addKey_len,List.length_replicate]
  by_cases hlt:i<ss.length
  ·have hlt':(i:Int)<ss.length:=by omega
   have hsi:ss[i]? = some ss[i]:=List.getElem?_eq_getElem hlt;have hsz:=hs.out _ (List.getElem_mem hlt);obtain⟨ad,u,rfl,hadB,hu,hcell⟩:=hr.out.at_ hlt;rw[List.getElem?_map,hsi] at hu;injection hu with hu;subst hu
   have htk:((ss.take (i+1)).map fun s=>s.data.toList).foldl addKey (List.replicate n 0)=addKey (((ss.take i).map fun s=>s.data.toList).foldl addKey (List.replicate n 0)) ss[i].data.toList:=by
    rw[List.take_add_one,hsi,List.map_append,List.foldl_append];rfl
   generalize ((ss.take i).map fun s=>s.data.toList).foldl addKey (List.replicate n 0)=b0 at *
   generalize ss[i]=s at *
   obtain⟨ad0,u0,e0,_,_,hc0⟩:=hr.out.at_ (k:=0) (by omega);injection e0 with e0;subst e0;obtain⟨bb,oo,rfl⟩:=plain_cell hc0;clear hc0;rw[add_off] at hcell;have hbl:bb<w.heap.size:=hadB;have hzr:=hbr.size;have q0:=(hbr.cell (p:=⟨bb,oo+i,none⟩) hadB).trans hcell
   have h8:(8*((n:Nat):Int))=((8*n:Nat):Int):=by omega
   have hpr:=probes_any s (8*n) wr hsz (by omega) (by omega)
   have hadd:addKey b0 s.data.toList=((List.range 6).map (probeL (hashL s.data.toList) (8*n))).foldl setBit b0:=by unfold addKey probesL;rw[hll]
   have hlm:∀j,probeL (hashL s.data.toList) (8*n) j<8*n:=fun j=>Nat.mod_lt _ (by omega);obtain⟨m,hm⟩:∃m,m=8*n:=⟨_,rfl⟩;rw[←hm] at hpr hadd hlm h8
   generalize probeL (hashL s.data.toList) m=g at *
   rw[hadd] at htk;replace hpr:=Lib.hid hpr;replace htk:=Lib.hid htk;replace hm:=Lib.hid hm;replace hlm:=Lib.hid hlm;replace hsi:=Lib.hid hsi;replace hll:=Lib.hid hll;clear hadd hcell;go_wp2_with fail
   refine hpr.out.mono ?_;rintro e w1 ⟨rfl,hb1⟩;have hF1:FB w1 w.heap.size b0:=Blk.below hF hb1 (Blk.lt hF);have hbw1:=hbr.trans (hb1.mono hzr);clear h8 q0;go_wp2_with fail
   go_loopw [26] (fun jv wq=>∃j:Nat,j≤6∧jv=.int .i64 (j:Nat)∧FB wq w.heap.size (((List.range j).map g).foldl setBit b0)∧Below w.heap.size w wq) (fun jv _=>6-(intOf jv).toNat)
   case atStart=>exact⟨0,Nat.zero_le _,rfl,hF1,hbw1⟩
   case round =>
    obtain⟨j,hj,rfl,hFq,hbq⟩:=hrel
    have hlq:(((List.range j).map g).foldl setBit b0).length=n:=by rw[foldl_set_len];exact hll.out
    by_cases hl6:j<6
    ·have hl6':(j:Int)<6:=by omega
     have hgj:=hlm.out j;have hmm:=hm.out
     have hsn:((List.range (j+1)).map g).foldl setBit b0=setBit (((List.range j).map g).foldl setBit b0) (g j):=by
      rw[List.range_succ,List.map_append,List.foldl_append];rfl
     generalize ((List.range j).map g).foldl setBit b0=b1 at *
     have hix:=index_pc g j hl6
     have hq1:g j / 8<b1.length:=by omega
     have hq2:(0:Int)≤(g j:Int) / 8∧(g j:Int) / 8<n:=by omega
     have z:=FB.cell hFq (g j / 8) hq1;have zf:=Blk.frozen hFq (g j / 8);have zl:=Blk.lt hFq;have hcl:=(b1.getD (g j / 8) 0).toNat_lt;have hset:setBit b1 (g j)=b1.set (g j / 8) (UInt8.ofNat ((b1.getD (g j / 8) 0).toNat ||| 2 ^ (g j % 8))):=rfl
     generalize b1.getD (g j / 8) 0=c at *
     have hpw:2 ^ (g j % 8)<2 ^ 8:=Nat.pow_lt_pow_right (by omega) (by omega);have hbor:bits .or .u8 ((c.toNat:Nat):Int) ((2 ^ (g j % 8):Nat):Int)=((c.toNat ||| 2 ^ (g j % 8):Nat):Int):=u8_or_nat _ _ hcl hpw
     have hpi:((2:Int) ^ (g j % 8) % 256)=((2 ^ (g j % 8):Nat):Int):=by
      have e1:((2:Int) ^ (g j % 8))=((2 ^ (g j % 8):Nat):Int):=by simp
      have e2:∀p:Nat,p<2 ^ 8→((p:Nat):Int) % 256=(p:Nat):=by intro p hp;omega
      rw[e1];exact e2 _ hpw
     rw[←hpi] at hbor;have hvl:c.toNat ||| 2 ^ (g j % 8)<2 ^ 8:=Nat.or_lt_two_pow hcl hpw
     have hB8:B8 (UInt8.ofNat (c.toNat ||| 2 ^ (g j % 8)))=.int .u8 ((c.toNat ||| 2 ^ (g j % 8):Nat):Int):=by unfold B8;rw[UInt8.toNat_ofNat',Nat.mod_eq_of_lt hvl]
     unfold B8 at z;replace hvl:=Lib.hid hvl;replace hB8:=Lib.hid hB8;clear hpi hpw hcl;replace hgj:=Lib.hid hgj;replace hlq:=Lib.hid hlq;replace hsn:=Lib.hid hsn;replace hset:=Lib.hid hset;clear hmm;go_wp2_with fail
     have hxc:=@Ext.cell;have hxf:=@Ext.frozen;refine wp_hide (fun Q0 hQ0=>?_);refine wp_region_line (fun w'=>∃x:Ext _,w'=x.w) [some false,some false,some false,some false,some false,some false,some false,some false,some false,some false,none] 0 (by kernel_rfl) (by kernel_rfl) ⟨⟨_,(Below.refl _ _).drew⟩,rfl⟩ ?_;simp only[earlyL,tailL]
     repeat (first | ((with_reducible refine wpMix_p ?_);go_big_quiet_step (fail);refine wpQuiet_nil ?_) | ((with_reducible refine wpMix_e ?_);go_big_quiet_step ((first | fail));refine wpQuiet_nil ?_))
     refine wpMix_nil ?_;clear hxc hxf;intro wx hwx;obtain⟨x,hx⟩:=hwx;have hb:=x.below;rw[←hx] at hb;clear hx x;have hFx:FB wx w.heap.size b1:=Blk.below hFq hb zl;have zx:=(hb.cell (p:=⟨w.heap.size,g j / 8,none⟩) zl).trans z;have zfx:=Blk.frozen hFx (g j / 8);have zlx:=Blk.lt hFx;have hbx:=hbq.trans (hb.mono hbq.size);clear z zf
     generalize c.toNat ||| 2 ^ (g j % 8)=v at *
     refine wpTail_step ?_;intro Q1 hQ1
     go_wp2_with (fail)
     refine hQ1 _ _ rfl (fun h=>absurd h (by decide)) ?_;clear hQ1 Q1;refine wpTail_nil ?_;refine hQ0 _ _ ?_;clear hQ0 Q0;go_wp2_with fail
     refine⟨⟨j+1,by omega,by rfl,?_,hbx.setCell (Nat.le_refl _) _⟩,by first | omega | (simp only[intOf];omega)⟩
     rw[hsn.out,hset.out,←hB8.out];exact hFx.set _ _
    ·obtain rfl:j=6:=by omega
     go_wp2_with fail
     refine⟨⟨i+1,by omega,by rfl,?_,hbq⟩,by first | omega | (simp only[intOf];omega)⟩
     rw[htk.out];exact hFq
  ·obtain rfl:i=ss.length:=by omega
   have hlt':¬(ss.length:Int)<ss.length:=by omega
   rw[List.take_length,←hfl.out] at hF hll
   have hown:OwnB wr w.heap.size (.slice (some ⟨w.heap.size,0,none⟩) n n) (filterL (ss.map fun s=>s.data.toList)):=by
    unfold OwnB;rw[hll];refine⟨by simp[hll],.inr ⟨w.heap.size,n,_,rfl,Nat.le_refl _,hF,Nat.le_refl _,by unfold maxLen;omega,by simp[hll],?_⟩⟩;rw[List.take_of_length_le (by simp[hll])]
   have htx:=hown.text;go_wp2_with fail
   go_ret
   exact⟨rfl,hbr⟩
end Go.Proofs.YtlpojfgeocpkeaaGreatDoor
namespace Go.Proofs.YtlpojfgeocpkeaaGreatDoor
set_option linter.unusedVariables false
set_option linter.unusedSimpArgs false
def TB.fin (s:TB):TB:=if 0<s.data.count then s.ends else s
def TB.rest (s:TB):L:=if 0<s.data.count then s.data.out else []
def TB.tail0 (s:TB):L:=filterL s.keys++s.index.outX++bigX s.at_++bigX (s.at_+(filterL s.keys).length)++bigX s.t.count
def TB.tail (s:TB):L:=s.tail0++bigL (crcL (s.parts++[s.tail0]).flatten) 4
def blocksT (s:L)(n:Nat):List (L × L)→Option (List (List (L × L)))
 | []=>some []
 | (_,v)::r=>match readVar v with
  | none=>none
  | some (p,z)=>match readVar (v.drop z) with
   | none=>none
   | some (q,_)=>if n<p∨n-p<q then none else
    match openB ((s.drop p).take q) with
    | none=>none
    | some b=>(blocksT s n r).map (b::·)
def readT (s:L):Option (L × List (L × L) × List (List (L × L))) :=
 if s.length<16 then none else
  if beV ((s.drop (s.length-12)).take 4)<beV ((s.drop (s.length-16)).take 4)∨s.length-16<beV ((s.drop (s.length-12)).take 4) then none else
   match openB ((s.drop (beV ((s.drop (s.length-12)).take 4))).take (s.length-16-beV ((s.drop (s.length-12)).take 4))) with
   | none=>none
   | some ix=>match blocksT s (beV ((s.drop (s.length-16)).take 4)) ix with
    | none=>none
    | some bls=>some ((s.drop (beV ((s.drop (s.length-16)).take 4))).take (beV ((s.drop (s.length-12)).take 4)-beV ((s.drop (s.length-16)).take 4)),ix,bls)
def againT:List (L × L)→TB × L→Option (TB × L)
 | [],a=>some a
 | (k,v)::r,a=>match entryP k v with
  | none=>none
  | some e=>againT r ((a.1.add e).1,a.2++(a.1.add e).2)
def TB.outL (s:TB):L:=if s.done=true∨s.t.count=0 then [] else s.rest++s.fin.tail
def openT (s:L):Option (L × List (L × L) × List (List (L × L))):=match readT s with
 | none=>none
 | some t=>match againT t.2.2.flatten (TB.new 0 0,[]) with
  | none=>none
  | some (tb,out)=>if out++tb.outL=s then some t else none
end Go.Proofs.YtlpojfgeocpkeaaGreatDoor
