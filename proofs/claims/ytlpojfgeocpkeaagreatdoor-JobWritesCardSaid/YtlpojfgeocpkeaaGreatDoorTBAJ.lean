/- block.Builder: Add. -/
import Derived.Test.YtlpojfgeocpkeaaGreatDoorX15
import Derived.Test.YtlpojfgeocpkeaaGreatDoorX08
namespace Go.Proofs.YtlpojfgeocpkeaaGreatDoor
open Go.RowKit
set_option linter.unusedVariables false
set_option linter.unusedSimpArgs false
theorem OwnW.form {w:World}{B:Nat}{v:Value}{l:List Nat}(h:OwnW w B v l):∃A cap,v=.slice A l.length cap:=by
 rcases h.2 with⟨rfl,e⟩ | ⟨g,cap,cur,rfl,_⟩
 ·exact⟨none,0,by rw[e]⟩
 ·exact⟨_,cap,rfl⟩
theorem OwnW.of_law {w:World}{B n:Nat}{v:Value}{l:List Nat}{m:Nat}(h:w.ownsRow B 34 1 v n ((l.map fun n=>Value.int .u64 (n:Nat))++[.int .u64 (m:Nat)])):OwnW w B v (l++[m]):=by
 have hl:n=(l++[m]).length:=by have:=h.1;simp at this;simp;omega
 subst hl;unfold OwnW;rw[List.map_append];exact h
theorem Text_two (c:Nat)(a b:ByteArray)(w:World)(hb:c<w.heap.size)(h0:w.cell? ⟨c,0,none⟩=some (.string a))(h1:w.cell? ⟨c,1,none⟩=some (.string b))(ha:a.size≤1099511627776)(hbs:b.size≤1099511627776) :
  Calls Tryz.prog 146 #[.slice (some ⟨c,0,none⟩) 2 2] w fun e w'=>e=.returned (.string (bs (textL [a.data.toList,b.data.toList])))∧Below w.heap.size w w':=by
 have hl:(textL [a.data.toList,b.data.toList]).length≤4611686018427387904:=by
  have:=varL1_len a.data.toList.length;have:=varL1_len b.data.toList.length;simp only[textL,List.length_append,List.append_nil]
  rw[dlen,dlen] at *
  omega
 have h:=Text_any (some ⟨c,0,none⟩) [a,b] 2 w ⟨rfl,fun _=>⟨_,rfl,hb,fun j u hu=>by
  rcases j with _ | _ | j
  ·simp at hu;subst hu;exact h0
  ·simp at hu;subst hu;exact h1
  ·simp at hu⟩⟩ (by simp) (by simpa using hl)
 simpa using h
def JA (w1:World)(B g t off:Nat)(cs:Array Value)(vb:Value)(l:L):Bool→Bool→World→Prop
 | false,false,w=>Below w1.heap.size w1 w
 | true,false,w=>KeptBut w1 w (fun k=>vb.ownBlock=some k)
 | true,true,w=>∃v,OwnB w B v l∧Moved w1 vb v∧KeptBut w1 w (fun k=>k=g∨vb.ownBlock=some k)∧Blk w g t (cs.setIfInBounds off v)
 | false,true,_=>False
section
variable {w1:World}{B g t off:Nat}{cs:Array Value}{vb:Value}{l:L}{a b:Bool}{w:World}
theorem JA.ff (ha:a=false)(hb:b=false)(h:Below w1.heap.size w1 w):JA w1 B g t off cs vb l a b w:=by subst ha hb;exact h
theorem JA.of_ff (ha:a=false)(hb:b=false)(h:JA w1 B g t off cs vb l a b w):Below w1.heap.size w1 w:=by subst ha hb;exact h
theorem JA.tf (hb:b=false)(h:KeptBut w1 w (fun k=>vb.ownBlock=some k)):JA w1 B g t off cs vb l true b w:=by subst hb;exact h
theorem JA.tt (ha:a=true)(h:∃v,OwnB w B v l∧Moved w1 vb v∧KeptBut w1 w (fun k=>k=g∨vb.ownBlock=some k)∧Blk w g t (cs.setIfInBounds off v)):JA w1 B g t off cs vb l a true w:=by subst ha;exact h
theorem JA.of_tt (ha:a=true)(hb:b=true)(h:JA w1 B g t off cs vb l a b w):∃v,OwnB w B v l∧Moved w1 vb v∧KeptBut w1 w (fun k=>k=g∨vb.ownBlock=some k)∧Blk w g t (cs.setIfInBounds off v):=by subst ha hb;exact h
theorem JA.of_tf (hb:b=false)(h:JA w1 B g t off cs vb l true b w):KeptBut w1 w (fun k=>vb.ownBlock=some k):=by subst hb;exact h
end
theorem Moved.of_le {w w':World}{v v':Value}(h:Moved w' v v')(hz:w.heap.size≤w'.heap.size):Moved w v v':=h.imp id (fun ⟨k,e,hk⟩=>⟨k,e,Nat.le_trans hz hk⟩)
theorem Moved.of_at {w1 w w9:World}{B:Nat}{v v9:Value}{l:L}(h:∀k,v9.ownBlock=some k→v.ownBlock=some k∨k=w.heap.size)(hz:w1.heap.size≤w.heap.size)(ho:OwnB w9 B v9 l)(hv:v9.ownBlock=none→v.ownBlock=none):Moved w1 v v9:=by
 rcases hq:v9.ownBlock with _ | k
 ·exact .inl (hq.trans (hv hq).symm)
 ·rcases h k hq with e | e
  ·exact .inl (hq.trans e.symm)
  ·exact .inr ⟨k,hq,by omega⟩
theorem own_some {w:World}{B:Nat}{v:Value}{l:L}(h:OwnB w B v l)(h0:0<l.length):v.ownBlock≠none:=by
 rcases h.2 with⟨_,e⟩ | ⟨g,cap,cur,rfl,_⟩
 ·omega
 ·simp[Value.ownBlock]
theorem BB.enc_pos (s:BB)(k v:L):0<(s.enc k v).length:=by
 unfold BB.enc varL1;rw[List.length_append]
 split<;>simp<;>omega
theorem own_set {w:World}{B e n g t o:Nat}{v u:Value}{xs:List Value}{cs:Array Value}(h:w.ownsRow B e 1 v n xs)(hg:Blk w g t cs)(ht:t≠e):(w.setCell ⟨g,o,none⟩ u).ownsRow B e 1 v n xs :=
 own_kept h ((KeptBut.refl w (fun k=>k=g)).then_set rfl) (fun k hk e=>own_blk_ne h hg (fun e=>ht e.symm) (by rw[hk,e]))
theorem tauL_mono2 {vs:List (Option Value)}{Sp:Nat→Value→World→Prop}{w w':World}{i:Nat}(hs:∀k u,k≠i→Sp k u w→Sp k u w')(k:Nat)(u:Value)(hk:k≠i)(h:tauL vs Sp k u w):tauL vs Sp k u w':=by
 unfold tauL at *
 split at h<;>first | exact h | exact hs _ _ hk h
def SA (w1:World)(B n:Nat)(x y:ByteArray)(vb:Value)(l:L):Nat→Value→World→Prop
 | 7,v,w=>∃b,v=.slice (some ⟨b,0,none⟩) 1 1∧w1.heap.size≤b∧b<w.heap.size∧w.cell? ⟨b,0,none⟩=some (.int .u64 (n:Nat))
 | 13,v,w=>∃b,v=.slice (some ⟨b,0,none⟩) 2 2∧w1.heap.size≤b∧b<w.heap.size∧w.cell? ⟨b,0,none⟩=some (.string x)∧w.cell? ⟨b,1,none⟩=some (.string y)
 | 16,v,w=>OwnB w B v l∧Moved w1 vb v
 | _,_,_=>True
theorem SA.mono {w1:World}{B n:Nat}{x y:ByteArray}{vb:Value}{l:L}{w w':World}(hb:Below w.heap.size w w'):∀k u,SA w1 B n x y vb l k u w→SA w1 B n x y vb l k u w':=by
 intro k u h
 unfold SA at *
 split at h
 ·obtain⟨b,e,h1,h2,h3⟩:=h;exact⟨b,e,h1,by have:=hb.size;omega,(hb.cell (p:=⟨b,0,none⟩) h2).trans h3⟩
 ·obtain⟨b,e,h1,h2,h3,h4⟩:=h;exact⟨b,e,h1,by have:=hb.size;omega,(hb.cell (p:=⟨b,0,none⟩) h2).trans h3,(hb.cell (p:=⟨b,1,none⟩) h2).trans h4⟩
 ·exact⟨own_block h.1 (fun k hk=>hb.block k (own_lt h.1 k hk).2),h.2⟩
 ·trivial
theorem SA.mono2 {w1:World}{B n:Nat}{x y:ByteArray}{vb:Value}{l:L}{w w':World}{S:Nat→Prop}(hb:KeptBut w w' S)(hS:∀k,S k→k<w1.heap.size):∀k u,k≠16→SA w1 B n x y vb l k u w→SA w1 B n x y vb l k u w':=by
 intro k u hk h
 unfold SA at *
 split at h
 ·obtain⟨b,e,h1,h2,h3⟩:=h
  have hn:¬S b:=fun hs=>by have:=hS b hs;omega
  exact⟨b,e,h1,by have:=hb.size;omega,(hb.cell ⟨b,0,none⟩ h2 hn).trans h3⟩
 ·obtain⟨b,e,h1,h2,h3,h4⟩:=h
  have hn:¬S b:=fun hs=>by have:=hS b hs;omega
  exact⟨b,e,h1,by have:=hb.size;omega,(hb.cell ⟨b,0,none⟩ h2 hn).trans h3,(hb.cell ⟨b,1,none⟩ h2 hn).trans h4⟩
 ·exact absurd rfl hk
 ·trivial
theorem SA.mono3 {w1:World}{B n g t:Nat}{cs:Array Value}{x y:ByteArray}{vb u0:Value}{l:L}{w:World}{off:Nat}(hg:g<w1.heap.size)(hblk:Blk w g t cs)(ht:t≠5):∀k u,SA w1 B n x y vb l k u w→SA w1 B n x y vb l k u (w.setCell ⟨g,off,none⟩ u0):=by
 intro k u h
 have hb:KeptBut w (w.setCell ⟨g,off,none⟩ u0) (fun k=>k=g):=(KeptBut.refl _ _).then_set rfl
 by_cases hk:k=16
 ·subst hk;exact⟨own_kept h.1 hb (fun k hk e=>own_blk_ne h.1 hblk (fun e=>ht e.symm) (by rw[hk,e])),h.2⟩
 ·exact SA.mono2 hb (fun k e=>by rw[e];exact hg) k u hk h
theorem wp_append_str {w:World}{o:Oper}{a:Act}{K:Act→World→Prop}{Q:Exit→Act→World→Prop}(sl x:Operand)
  (ho:o.op=.call { callee:=.builtin .append,args:=#[sl,x],argTypes:=#[81,9] })
  (base:Nat) (v:Value) (l:List UInt8) (hs:a.eval sl=v) (hown:OwnB w base v l) (s:ByteArray) (hx:a.eval x=.string s) (hbytes:l.length+s.size≤70368744177664) (hbase:base≤w.heap.size)
  (h:∀v' w',OwnB w' base v' (l++s.data.toList)→w.grownBy w' v.ownBlock→(∀k,v'.ownBlock=some k→v.ownBlock=some k∨k=w.heap.size)→K (a.put o.dst v') w'):o.wp Tryz.prog a w K Q:=by
 obtain⟨v',w',hr,h2,h3,h4⟩:=run_append_str o.type s hown hbytes hbase;unfold Oper.wp execOp;simp only[ho,resolve,invoke,builtin,Sem.run_bind,Sem.run_pure,Result.andThen_ok,List.map_toArray,List.map_cons,List.map_nil,hs,hx,hr];exact h v' w' h2 h3 h4
def usL (l:List Value):Nat→Value:=fun k=>l.getD k undef
theorem set_self_get {cs:Array Value}{i:Nat}{v:Value}(h:cs[i]? = some v):cs.setIfInBounds i v=cs:=by
 apply Array.ext_getElem?
 intro j
 by_cases hj:j=i
 ·subst hj;rcases Nat.lt_or_ge j cs.size with hl | hl
  ·rw[Array.getElem?_setIfInBounds_self_of_lt hl,h]
  ·rw[Array.getElem?_eq_none hl] at h;cases h
 ·rw[Array.getElem?_setIfInBounds_ne (fun e=>hj e.symm)]
theorem set_lt {cs:Array Value}{i:Nat}{v:Value}(h:cs[i]? = some v):i<cs.size:=by
 rcases Nat.lt_or_ge i cs.size with hl | hl
 ·exact hl
 ·rw[Array.getElem?_eq_none hl] at h;cases h
theorem setBB_get {cs:Array Value}{off:Nat}{vb vs:Value}{s:BB}(h:off+3<cs.size):(setBB cs off vb vs s)[off]? = some vb∧(setBB cs off vb vs s)[off+1]? = some vs∧(setBB cs off vb vs s)[off+2]? = some (.int .i64 s.count)∧(setBB cs off vb vs s)[off+3]? = some (.string (bs s.last)):=by
 unfold setBB;refine⟨?_,?_,?_,?_⟩
 ·rw[Array.getElem?_setIfInBounds_ne (by omega),Array.getElem?_setIfInBounds_ne (by omega),Array.getElem?_setIfInBounds_ne (by omega),Array.getElem?_setIfInBounds_self_of_lt (by omega)]
 ·rw[Array.getElem?_setIfInBounds_ne (by omega),Array.getElem?_setIfInBounds_ne (by omega),Array.getElem?_setIfInBounds_self_of_lt (by simp;omega)]
 ·rw[Array.getElem?_setIfInBounds_ne (by omega),Array.getElem?_setIfInBounds_self_of_lt (by simp;omega)]
 ·rw[Array.getElem?_setIfInBounds_self_of_lt (by simp;omega)]
theorem BBAt.put_end {w W1 wx:World}{B g t off:Nat}{cs cs1:Array Value}{s:BB}{vb vs vs' v9 x y:Value}{k v:L}(h:BBAt w B g t off cs s vb vs)(hcs1:cs1=cs.setIfInBounds (off+1) vs')
  (hKt:KeptBut w W1 (BS g vb vs)) (hWt:OwnW W1 B vs' (s.put k v).starts) (hm:Moved w vs vs') (hgs:vs'.ownBlock≠some g) (ho9:OwnB wx B v9 (s.b++s.enc k v)) (hm9:Moved W1 vb v9)
  (hk9:KeptBut W1 wx (fun k=>k=g∨vb.ownBlock=some k)) (hb9:Blk wx g t (cs1.setIfInBounds off v9)) (hvs:∀k,vb.ownBlock=some k→vs'.ownBlock≠some k)
  (hx:x=.string (bs k)) (hy:y=.int .i64 ((s.count+1:Nat):Int)) :
  ∃vb' vs'',BBAt ((wx.setCell ⟨g,off+3,none⟩ x).setCell ⟨g,off+2,none⟩ y) B g t off (setBB cs off vb' vs'' (s.put k v)) (s.put k v) vb' vs''∧KeptBut w ((wx.setCell ⟨g,off+3,none⟩ x).setCell ⟨g,off+2,none⟩ y) (BS g vb vs)∧Moved w vb vb'∧Moved w vs vs'':=by
 subst hx hy hcs1;have hsz:=set_lt h.e3
 have e:((((cs.setIfInBounds (off+1) vs').setIfInBounds off v9).setIfInBounds (off+3) (.string (bs k))).setIfInBounds (off+2) (.int .i64 ((s.count+1:Nat):Int)))=setBB cs off v9 vs' (s.put k v):=by
  unfold setBB;rw[Array.setIfInBounds_comm (i:=off) (j:=off+1) _ _ (by omega),Array.setIfInBounds_comm (i:=off+2) (j:=off+3) _ _ (by omega)];rfl
 have hB1:=hb9.set_ (off+3) (.string (bs k));have hB2:=hB1.set_ (off+2) (.int .i64 ((s.count+1:Nat):Int));rw[e] at hB2;have o1:=own_set (o:=off+3) (u:=.string (bs k)) ho9 hb9 h.tb;have o2:=own_set (o:=off+2) (u:=.int .i64 ((s.count+1:Nat):Int)) o1 hB1 h.tb
 have p0:=own_kept hWt hk9 (fun k hk e=>by
  rcases e with e | e
  ·exact hgs (by rw[hk,e])
  ·exact hvs k e hk)
 have p1:=own_set (o:=off+3) (u:=.string (bs k)) p0 hb9 h.tw;have p2:=own_set (o:=off+2) (u:=.int .i64 ((s.count+1:Nat):Int)) p1 hB1 h.tw;obtain⟨g0,g1,g2,g3⟩:=setBB_get (cs:=cs) (off:=off) (vb:=v9) (vs:=vs') (s:=s.put k v) hsz;refine⟨v9,vs',⟨h.hB,hB2,g0,g1,g2,g3,o2,p2,h.tb,h.tw⟩,?_,hm9.of_le hKt.size,hm⟩
 exact (((hKt.trans hk9 (fun k _ e=>e.elim .inl (fun e=>.inr (.inl e)))).then_set (.inl rfl)).then_set (.inl rfl))
end Go.Proofs.YtlpojfgeocpkeaaGreatDoor
