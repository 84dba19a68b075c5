/- A disk beside other memory: what a call keeps. -/
import Derived.Test.YtlpojfgeocpkeaaGreatDoorX06
import Derived.Test.YtlpojfgeocpkeaaGreatDoorX08
import Derived.Test.YtlpojfgeocpkeaaGreatDoorTCrcJ
namespace Go.Proofs.YtlpojfgeocpkeaaGreatDoor
open Go.RowKit
set_option linter.unusedVariables false
set_option linter.unusedSimpArgs false
structure Keeps (X:Nat→Prop)(w w':World):Prop where
 os:w'.os=w.os
 tape:w'.tape=w.tape
 output:w'.output=w.output
 size:w.heap.size≤w'.heap.size
 block:∀k,X k→w'.heap[k]? = w.heap[k]?
section
variable {X Y:Nat→Prop}{w w' w'':World}
theorem Keeps.refl (X:Nat→Prop)(w:World):Keeps X w w:=⟨rfl,rfl,rfl,Nat.le_refl _,fun _ _=>rfl⟩
theorem Keeps.drew (h:Keeps X w w'):Keeps X w w'.drew:=⟨h.os,h.tape,h.output,h.size,h.block⟩
theorem Keeps.of_below (h:Below w.heap.size w w')(hX:∀k,X k→k<w.heap.size):Keeps X w w':=⟨h.os,h.tape,h.output,h.size,fun k hk=>h.block k (hX k hk)⟩
theorem Keeps.trans (h:Keeps X w w')(h':Keeps Y w' w'')(hX:∀k,X k→Y k):Keeps X w w'' :=
 ⟨h'.os.trans h.os,h'.tape.trans h.tape,h'.output.trans h.output,Nat.le_trans h.size h'.size,fun k hk=>(h'.block k (hX k hk)).trans (h.block k hk)⟩
theorem Keeps.less (h:Keeps X w w')(hX:∀k,Y k→X k):Keeps Y w w':=⟨h.os,h.tape,h.output,h.size,fun k hk=>h.block k (hX k hk)⟩
theorem Keeps.then_below {B:Nat}(h:Keeps X w w')(hb:Below B w' w'')(hX:∀k,X k→k<B):Keeps X w w'' :=
 ⟨hb.os.trans h.os,hb.tape.trans h.tape,hb.output.trans h.output,Nat.le_trans h.size hb.size,fun k hk=>(hb.block k (hX k hk)).trans (h.block k hk)⟩
theorem Keeps.then_set {g o:Nat}{v:Value}(h:Keeps X w w')(hg:¬X g):Keeps X w (w'.setCell ⟨g,o,none⟩ v) :=
 ⟨h.os,h.tape,h.output,by simpa[World.setCell] using h.size,fun k hk=>(Below.heap_setCell _ _ _ _ (fun e=>hg (by rw[e] at hk;exact hk))).trans (h.block k hk)⟩
theorem Keeps.below {B:Nat}(h:Keeps X w w')(hX:∀k,k<B→X k):Below B w w':=⟨h.os,h.tape,h.output,h.size,fun k hk=>h.block k (hX k hk)⟩
theorem Keeps.cell (h:Keeps X w w'){b o:Nat}(hb:X b):w'.cell? ⟨b,o,none⟩=w.cell? ⟨b,o,none⟩:=World.cell?_of_block (h.block b hb)
theorem Keeps.blk {g t:Nat}{cs:Array Value}(h:Keeps X w w')(hg:Blk w g t cs)(hX:X g):Blk w' g t cs:=(h.block g hX).trans hg
theorem Keeps.own {B e size n:Nat}{v:Value}{xs:List Value}(h:Keeps X w w')(ho:w.ownsRow B e size v n xs)(hX:∀k,v.ownBlock=some k→X k):w'.ownsRow B e size v n xs:=own_block ho fun k hk=>h.block k (hX k hk)
end
def Dx (X:Nat→Prop)(w:World)(d:Nat)(s:Dsk):Prop:=∃F L,DskAt w F d L s∧∀k,F k→k<w.heap.size∧¬X k
section
variable {X Y:Nat→Prop}{w w':World}{d:Nat}{s s':Dsk}
theorem Dx.apart (h:Dx X w d s):¬X d:=by
 obtain⟨F,L,hL,hF⟩:=h;exact (hF d hL.inF.1).2
theorem Dx.less (h:Dx X w d s)(hX:∀k,k<w.heap.size→Y k→X k):Dx Y w d s:=by
 obtain⟨F,L,hL,hF⟩:=h;exact⟨F,L,hL,fun k hk=>⟨(hF k hk).1,fun hy=>(hF k hk).2 (hX k (hF k hk).1 hy)⟩⟩
theorem Dx.grow (h:Dx X w d s)(hb:Below w.heap.size w w')(hX:∀k,Y k→X k∨w.heap.size≤k):Dx Y w' d s:=by
 obtain⟨F,L,hL,hF⟩:=h;refine⟨F,L,hL.below hb,fun k hk=>⟨by have:=(hF k hk).1;have:=hb.size;omega,fun hy=>?_⟩⟩;rcases hX k hy with q | q
 ·exact (hF k hk).2 q
 ·have:=(hF k hk).1;omega
theorem Dx.beside {S:Nat→Prop}(h:Dx X w d s)(hk:KeptBut w w' S)(hS:∀k,S k→X k∨w.heap.size≤k):Dx X w' d s:=by
 obtain⟨F,L,hL,hF⟩:=h;refine⟨F,L,hL.kept hk (fun k hf hs=>?_),fun k hf=>⟨by have:=(hF k hf).1;have:=hk.size;omega,(hF k hf).2⟩⟩;rcases hS k hs with q | q
 ·exact (hF k hf).2 q
 ·have:=(hF k hf).1;omega
theorem Dx.went {F:Nat→Prop}(hF:∀k,F k→k<w.heap.size∧¬X k)(hX:∀k,X k→k<w.heap.size)(h:Went w w' F d s'):Dx X w' d s'∧Keeps X w w':=by
 obtain⟨L,hL⟩:=h.at_;have hs:=h.kept.size;refine⟨⟨_,L,hL,fun k hk=>?_⟩,h.kept.os,h.kept.tape,h.kept.output,hs,fun k hk=>h.kept.block k (hX k hk) (fun hf=>(hF k hf).2 hk)⟩;rcases hk with hk | hk
 ·exact⟨by have:=(hF k hk).1;omega,(hF k hk).2⟩
 ·exact⟨hk.2,fun hx=>by have:=hX k hx;omega⟩
theorem New_dx (r:Int)(w:World)(hX:∀k,X k→k<w.heap.size):Calls Tryz.prog 10 #[.int .i64 r] w fun e w'=>∃d,e=.returned (.pointer (some ⟨d,0,none⟩))∧Dx X w' d (Dsk.new r)∧Below w.heap.size w w'∧w.heap.size≤d :=
 (dkNew_any r w).mono fun e w' ⟨d,he,⟨L,hL⟩,hb⟩=>⟨d,he,⟨_,L,hL,fun k hk=>⟨hk.2,fun hx=>by have:=hX k hx;omega⟩⟩,hb,hL.inF.1.1⟩
variable {m:Nat}(h:Dx X w d s)(hX:∀k,X k→k<w.heap.size)(g:s.Good m)(hm:m<1073741824)(n:ByteArray)(hn:n.size≤1073741824)
include h g hm hn
theorem Read_dx:Calls Tryz.prog 36 #[.pointer (some ⟨d,0,none⟩),.string n] w fun e w'=>e=.returned (.tuple #[.string (bs (s.read n.data.toList).1),.int .i64 ((s.read n.data.toList).2:Nat)])∧w=w':=by
 obtain⟨F,L,hL,hF⟩:=h;have hm1:=hm;exact Read_any hL g.ok n (by unfold maxLen;omega)
include hX
theorem Create_dx:Calls Tryz.prog 11 #[.pointer (some ⟨d,0,none⟩),.string n] w fun e w'=>e=.returned (.int .i64 ((s.create n.data.toList).2:Nat))∧Dx X w' d (s.create n.data.toList).1∧Keeps X w w':=by
 obtain⟨F,L,hL,hF⟩:=h;have h1:=g.names;have h2:=g.chg;exact (Create_any hL g.ok n (by unfold maxLen;omega) (by omega) (by omega)).mono fun e w' ⟨he,hw⟩=>⟨he,Dx.went hF hX hw⟩
theorem Append_dx (x:ByteArray)(hx:x.size≤1073741824):Calls Tryz.prog 12 #[.pointer (some ⟨d,0,none⟩),.string n,.string x] w fun e w'=>e=.returned (.int .i64 ((s.append n.data.toList x.data.toList).2:Nat))∧Dx X w' d (s.append n.data.toList x.data.toList).1∧Keeps X w w':=by
 obtain⟨F,L,hL,hF⟩:=h;have h1:=g.names;exact (Append_any hL g.ok n x (by unfold maxLen;omega) hx (by omega)).mono fun e w' ⟨he,hw⟩=>⟨he,Dx.went hF hX hw⟩
theorem Delete_dx:Calls Tryz.prog 69 #[.pointer (some ⟨d,0,none⟩),.string n] w fun e w'=>e=.returned (.int .i64 ((s.delete n.data.toList).2:Nat))∧Dx X w' d (s.delete n.data.toList).1∧Keeps X w w':=by
 obtain⟨F,L,hL,hF⟩:=h;have h1:=g.names;have h2:=g.chg;exact (Delete_any hL g.ok n (by unfold maxLen;omega) (by omega) (by omega)).mono fun e w' ⟨he,hw⟩=>⟨he,Dx.went hF hX hw⟩
theorem Sync_dx:Calls Tryz.prog 28 #[.pointer (some ⟨d,0,none⟩),.string n] w fun e w'=>e=.returned (.int .i64 ((s.sync n.data.toList).2:Nat))∧Dx X w' d (s.sync n.data.toList).1∧Keeps X w w':=by
 obtain⟨F,L,hL,hF⟩:=h;have hm1:=hm;exact (Sync_any hL g.ok n (by unfold maxLen;omega)).mono fun e w' ⟨he,hw⟩=>⟨he,Dx.went hF hX hw⟩
end
section
variable {X Y:Nat→Prop}{w w':World}{d:Nat}{s s':Dsk}{m:Nat}(h:Dx X w d s)(hX:∀k,X k→k<w.heap.size)(g:s.Good m)
include h
theorem List_dx (g:s.Good m)(hm:m<1073741824):Calls Tryz.prog 18 #[.pointer (some ⟨d,0,none⟩)] w fun e w'=>∃v:Value,e=.returned v∧w'.ownsRow 0 9 1 v s.names.length (s.names.map fun p=>.string (bs p.1))∧Below w.heap.size w w':=by
 obtain⟨F,L,hL,hF⟩:=h;exact List_any hL (by have:=g.names;omega)
include hX
theorem DirSync_dx (g:s.Good m):Calls Tryz.prog 29 #[.pointer (some ⟨d,0,none⟩)] w fun e w'=>e=.returned (.int .i64 (s.dirsync.2:Nat))∧Dx X w' d s.dirsync.1∧Keeps X w w':=by
 obtain⟨F,L,hL,hF⟩:=h;exact (DirSync_any hL g.ok).mono fun e w' ⟨he,hw⟩=>⟨he,Dx.went hF hX hw⟩
end
end Go.Proofs.YtlpojfgeocpkeaaGreatDoor
