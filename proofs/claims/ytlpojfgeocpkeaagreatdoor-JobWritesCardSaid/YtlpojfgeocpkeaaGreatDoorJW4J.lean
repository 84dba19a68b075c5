/- JobWrites: a job whose lists' source is turned; lists of one's own that are turned. -/
import Derived.Test.YtlpojfgeocpkeaaGreatDoorJW3J
import Derived.Test.YtlpojfgeocpkeaaGreatDoorJLs3J
namespace Go.Proofs.YtlpojfgeocpkeaaGreatDoor
open Go.RowKit Go.Sort
set_option linter.unusedVariables false
set_option linter.unusedSimpArgs false
section
variable {K:Nat→Prop}{w w':World}{g d:Nat}{s:Dsk}{n:Nat}{lv:Int}{vl:Value}{os:List EL}{J:JW}{done over dead:Bool}{ok:Prop}
theorem JRun.beside {S:Nat→Prop}(h:JRun K w g d s n lv vl os J done over dead ok)(hk:KeptBut w w' S)(hS:∀k,S k→K k):JRun K w' g d s n lv vl os J done over dead ok:=by
 obtain⟨F,gb,vt,vf,h1,h2⟩:=h;have hz:=hk.size;refine⟨F,gb,vt,vf,⟨h1.dx.beside hk (fun k q=>.inl (.inl (hS k q))),fun k q=>⟨by have:=(h1.kl k q).1;omega,(h1.kl k q).2⟩,fun k q=>⟨by have:=(h1.fl k q).1;omega,(h1.fl k q).2⟩,h1.box.keptB hk (fun q=>(h1.kl g (hS g q)).2.1 (.inl rfl)),own_kept h1.tabs hk (fun k e q=>(h1.kl k (hS k q)).2.1 (.inr (.inl e))),own_kept h1.files hk (fun k e q=>(h1.kl k (hS k q)).2.1 (.inr (.inr e)))⟩,fun q q2 x hx=>?_⟩;obtain⟨a,e,hT⟩:=h2 q q2 x hx;exact⟨a,e,hT.kept hk (fun k q e=>(h1.kl k (hS k e)).2.2 q)⟩
end
theorem new_run2 {B0 B1:Nat}{w:World}{A:Option Addr}{ls:List EL}{cap d:Nat}{s:Dsk}(lv:Int)(n:Nat)(hD:Dx (fun k=>k<B1) w d s)(h:LsAt w w.heap.size A ls)(hn:ls.length≤6)(hok:∀x∈ls,0<x.l.length→OkL x.l)(hl:∀x∈ls,x.l.length≤60)(hG:Gl w)(h5:Tab w)(hB:7≤B0)(hB01:B0≤B1)(hBw:B1≤w.heap.size) :
  Calls Tryz.prog 14 #[.pointer (some ⟨d,0,none⟩),.int .i64 lv,.int .u64 (n:Nat),.slice A ls.length cap] w fun e w'=>∃K K' vl os,e=.returned (.pointer (some ⟨w.heap.size,0,none⟩))∧(∀k,k<B1→K k)∧(∀k,k<B0→K' k)∧(∀k,K' k→K k)∧(∀k,B0≤k→k<B1→¬K' k) ∧
   JRun K w' w.heap.size d s n lv vl os ⟨0,0,[],[]⟩ false false false True∧JK K' w' vl os∧os.map (·.l)=(ls.filter fullP).map (·.l)∧Below w.heap.size w w':=by
 refine (JNew_any (some ⟨d,0,none⟩) lv n h hn hl).mono ?_;rintro e w' ⟨vl,os,rfl,hJ,ho,hom,hb⟩;have hz:=hb.size;have hJl:=hJ.lt;refine⟨fun k=>k<B1∨(w.heap.size<k∧k<w'.heap.size),fun k=>k<B0∨(w.heap.size<k∧k<w'.heap.size),vl,os,rfl,fun k q=>.inl q,fun k q=>.inl q,fun k q=>q.imp (fun q=>by omega) id,fun k q1 q2 q=>by rcases q with q | q<;>omega,⟨fun _=>False,none,.slice none 0 0,.slice none 0 0,⟨?_,fun k q=>⟨?_,?_,id⟩,fun k q=>q.elim,hJ,World.ownsRow_nil _ _ _ 8,World.ownsRow_nil _ _ _ 1⟩,fun _ q=>absurd rfl q⟩,?_,hom,hb⟩
 ·refine hD.grow hb (fun k q=>?_);rcases q with (q | q) | (q | q | q) | q
  ·exact .inl q
  ·exact .inr (by omega)
  ·exact .inr (by omega)
  ·cases q
  ·cases q
  ·exact q.elim
 ·rcases q with q | q<;>omega
 ·rintro (e | e | e)
  ·rcases q with q | q<;>omega
  ·cases e
  ·cases e
 ·have hlen:os.length≤6:=by
   have h1:=congrArg List.length hom;have h2:=List.length_filter_le fullP ls;rw[List.length_map,List.length_map] at h1;omega
  refine⟨⟨⟨ho.row.1,?_⟩,fun x hx=>(ho.each x hx).less (Nat.zero_le _)⟩,fun k q=>.inr ⟨?_,?_⟩,fun x hx k q=>.inr ?_,fun x hx=>?_,hlen,hG.below hb (by omega),h5.low hb (by omega),fun k q=>.inl (by omega),by omega⟩
  ·rcases ho.row.2 with q | ⟨g,cap,cur,q1,q2,q3⟩
   ·exact .inl q
   ·exact .inr ⟨g,cap,cur,q1,Nat.zero_le _,q3⟩
  ·have:=(own_lt ho.row k q).1;omega
  ·exact (own_lt ho.row k q).2
  ·rcases ho.each x hx with e | ⟨g,cap,e1,e2,e3,e4⟩
   ·rw[e.1] at q;cases q
   ·rw[e1] at q;simp only[Value.ownBlock,Option.some.injEq] at q;subst q;obtain⟨cs,hbb,_⟩:=e4.blk;exact⟨by omega,hbb.lt⟩
  ·have hm:x.l∈os.map (·.l):=List.mem_map.2 ⟨x,hx,rfl⟩;rw[hom] at hm;obtain⟨y,hy,e⟩:=List.mem_map.1 hm;obtain⟨hy1,hy2⟩:=List.mem_filter.1 hy;rw[←e];exact hok y hy1 (by unfold fullP at hy2;simpa using hy2)
def TurnI (w:World)(B C:Nat)(os:List EL):Prop:=∀x∈os,0<x.l.length→∃g cur,x.A=some ⟨g,0,none⟩∧B≤g∧g<C∧Blk w g 46 cur∧x.l.length*4≤cur.size
theorem TurnI.of {w:World}{B:Nat}{v:Value}{os:List EL}(h:OwnLL w B v os):TurnI w B w.heap.size os:=fun x hx hp=>by
 rcases h.each x hx with e | ⟨g,cap,e1,e2,e3,e4⟩
 ·rw[e.2] at hp;cases hp
 ·obtain⟨cs,hbb,hs⟩:=e4.blk;injection e1 with e1 _ _;refine⟨g,cs,e1,e2,hbb.lt,hbb,?_⟩;have:=e4.le;simp at this;omega
theorem TurnI.below {w w':World}{B C:Nat}{os:List EL}(h:TurnI w B C os)(hb:Below w.heap.size w w'):TurnI w' B C os:=fun x hx hp=>by
 obtain⟨g,cur,e1,e2,e2b,e3,e4⟩:=h x hx hp;exact⟨g,cur,e1,e2,e2b,e3.below hb e3.lt,e4⟩
theorem TurnI.set {w:World}{B C:Nat}{os:List EL}(h:TurnI w B C os)(b o:Nat)(v:Value):TurnI (w.setCell ⟨b,o,none⟩ v) B C os:=fun x hx hp=>by
 obtain⟨g,cur,e1,e2,e2b,e3,e4⟩:=h x hx hp
 by_cases e:g=b
 ·subst e;exact⟨g,_,e1,e2,e2b,e3.set_ o v,by simpa using e4⟩
 ·exact⟨g,cur,e1,e2,e2b,e3.far (by show g≠b;exact e) v,e4⟩
structure OwnJ (w0 w:World)(B C:Nat)(v:Value)(os:List EL):Prop where
 kept:KeptBut w0 w (fun k=>B≤k∧k<C)
 turn:TurnI w B C os
 row:w.ownsRow 0 44 1 v os.length (os.flatMap elV)
theorem OwnJ.set {w0 w:World}{B C:Nat}{v:Value}{os:List EL}(h:OwnJ w0 w B C v os){g o:Nat}{cur:Array Value}(hB:Blk w g 46 cur)(h1:B≤g)(h2:g<C)(u:Value):OwnJ w0 (w.setCell ⟨g,o,none⟩ u) B C v os:=by
 refine⟨h.kept.then_set ⟨h1,h2⟩,h.turn.set _ _ _,?_⟩
 have hk:KeptBut w (w.setCell ⟨g,o,none⟩ u) (fun k=>k=g):=(KeptBut.refl _ _).then_set rfl
 exact own_kept h.row hk (fun k e q=>own_blk_ne h.row hB (by decide) (by rw[e,q]))
def GotF (w:World)(FA:Option Addr)(fs:List L)(j:Nat):Prop:=0<fs.length→∃g cur,FA=some ⟨g,0,none⟩∧Blk w g 9 cur∧∀q u,j≤q→(fsL fs)[q]? = some u→cur[q]? = some u
theorem GotF.of {w:World}{B:Nat}{FA:Option Addr}{c:Nat}{fs:List L}(h:w.ownsRow B 9 1 (.slice FA fs.length c) fs.length (fsL fs)):GotF w FA fs 0:=fun hp=>by
 rcases h.2 with⟨e,e2⟩ | ⟨g,cap,cur,e,_,hg,hn,_,hcs,htk⟩
 ·omega
 ·injection e with e1 e2 e3;refine⟨g,cur,e1,hg,fun q u _ hu=>?_⟩;rw[←htk,List.getElem?_take] at hu
  split at hu
  ·rwa [Array.getElem?_toList] at hu
  ·cases hu
theorem GotF.set {w:World}{FA:Option Addr}{fs:List L}{j g:Nat}{cur:Array Value}(hA:FA=some ⟨g,0,none⟩)(hB:Blk w g 9 cur)(hc:∀q u,j≤q→(fsL fs)[q]? = some u→cur[q]? = some u)(v:Value):GotF (w.setCell ⟨g,j,none⟩ v) FA fs (j+1):=fun _ =>
 ⟨g,_,hA,hB.set_ j v,fun q u hq hu=>by
  rw[Array.getElem?_setIfInBounds_ne (by omega)]
  exact hc q u (by omega) hu⟩
def GotT (w:World)(TA:Option Addr)(ts:List TI)(j:Nat):Prop:=0<ts.length→∃g cur,TA=some ⟨g,0,none⟩∧Blk w g 51 cur∧∀q u,j*8≤q→(tsL ts)[q]? = some u→cur[q]? = some u
theorem GotT.of {w:World}{B:Nat}{TA:Option Addr}{c:Nat}{ts:List TI}(h:w.ownsRow B 51 8 (.slice TA ts.length c) ts.length (tsL ts)):GotT w TA ts 0:=fun hp=>by
 rcases h.2 with⟨e,e2⟩ | ⟨g,cap,cur,e,_,hg,hn,_,hcs,htk⟩
 ·omega
 ·injection e with e1 e2 e3;refine⟨g,cur,e1,hg,fun q u _ hu=>?_⟩;rw[←htk,List.getElem?_take] at hu
  split at hu
  ·rwa [Array.getElem?_toList] at hu
  ·cases hu
theorem GotT.set {w:World}{TA:Option Addr}{ts:List TI}{j g:Nat}{cur:Array Value}(hA:TA=some ⟨g,0,none⟩)(hB:Blk w g 51 cur)(hc:∀q u,j*8≤q→(tsL ts)[q]? = some u→cur[q]? = some u)(v:Value):GotT (w.setCell ⟨g,j*8,none⟩ v) TA ts (j+1):=fun _ =>
 ⟨g,_,hA,hB.set_ (j*8) v,fun q u hq hu=>by
  rw[Array.getElem?_setIfInBounds_ne (by omega)]
  exact hc q u (by omega) hu⟩
theorem tsL_at:∀(ts:List TI) (i:Nat) (t:TI) (k:Nat),k<8→ts[i]? = some t→(tsL ts)[i*8+k]? = (tiC t)[k]?
 | [],i,t,k,_,h=>by simp at h
 | x::l,0,t,k,hk,h=>by
  simp at h;subst h;show (tiL x++tsL l)[0*8+k]? = _;rw[List.getElem?_append_left (by simp[tiL,tiC];omega)];simp[tiL]
 | x::l,i+1,t,k,hk,h=>by
  have:=tsL_at l i t k hk (by simpa using h);show (tiL x++tsL l)[(i+1)*8+k]? = _;rw[List.getElem?_append_right (by simp[tiL,tiC];omega),←this]
  congr 1
  simp[tiL,tiC];omega
theorem GotT.at_ {w:World}{TA:Option Addr}{ts:List TI}{j:Nat}{t:TI}(h:GotT w TA ts j)(ht:ts[j]? = some t):∃g cur,TA=some ⟨g,0,none⟩∧Blk w g 51 cur∧(∀q u,j*8≤q→(tsL ts)[q]? = some u→cur[q]? = some u)∧∀k,k<8→w.cell? ⟨g,j*8+k,none⟩=(tiC t)[k]? := by
 have hj:=(List.getElem?_eq_some_iff.1 ht).1;obtain⟨g,cur,e1,e2,e3⟩:=h (by omega);refine⟨g,cur,e1,e2,e3,fun k hk=>?_⟩;have h1:=tsL_at ts j t k hk ht;have h2:(tiC t)[k]? = some (tiC t)[k]:=Array.getElem?_eq_getElem (by simp[tiC];omega);rw[h2] at h1 ⊢;exact (e2.cell _).trans (e3 _ _ (by omega) h1)
theorem GotF.at_ {w:World}{FA:Option Addr}{fs:List L}{j:Nat}{x:L}(h:GotF w FA fs j)(hx:fs[j]? = some x):∃g cur,FA=some ⟨g,0,none⟩∧Blk w g 9 cur∧(∀q u,j≤q→(fsL fs)[q]? = some u→cur[q]? = some u)∧w.cell? ⟨g,j,none⟩=some (.string (bs x)):=by
 have hj:=(List.getElem?_eq_some_iff.1 hx).1;obtain⟨g,cur,e1,e2,e3⟩:=h (by omega);refine⟨g,cur,e1,e2,e3,(e2.cell _).trans (e3 _ _ (Nat.le_refl _) ?_)⟩;unfold fsL;rw[List.getElem?_map,hx];rfl
end Go.Proofs.YtlpojfgeocpkeaaGreatDoor
