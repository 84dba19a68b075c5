/- JobLasts walked. -/
import Derived.Test.YtlpojfgeocpkeaaGreatDoorX40
import Derived.Test.YtlpojfgeocpkeaaGreatDoorJLs2J
import Derived.Test.YtlpojfgeocpkeaaGreatDoorX38
namespace Go.Proofs.YtlpojfgeocpkeaaGreatDoor
open Go.RowKit Go.Sort
set_option linter.unusedVariables false
set_option linter.unusedSimpArgs false
theorem own_moreJ {w:World}{B B' e m n:Nat}{v:Value}{xs:List Value}(h:w.ownsRow B e m v n xs)(hB:B'≤B):w.ownsRow B' e m v n xs:=by
 refine⟨h.1,?_⟩;rcases h.2 with q | ⟨g,cap,cur,q1,q2,q3⟩
 ·exact .inl q
 ·exact .inr ⟨g,cap,cur,q1,Nat.le_trans hB q2,q3⟩
theorem own_belowJ {w w':World}{B e m n:Nat}{v:Value}{xs:List Value}(h:w.ownsRow B e m v n xs)(hb:Below w.heap.size w w'):w'.ownsRow B e m v n xs:=own_block h (fun k hk=>hb.block k (own_lt h k hk).2)
theorem rowF_at {w:World}{A:Option Addr}{c:Nat}{F:List EL}(h:w.ownsRow 0 44 1 (.slice A F.length c) F.length (F.flatMap elV)){i:Nat}{x:EL}(hx:F[i]? = some x):∃b,A=some ⟨b,0,none⟩∧b<w.heap.size∧w.cell? ⟨b,i,none⟩=some (.slice x.A x.l.length x.c):=by
 have hi:i<F.length:=(List.getElem?_eq_some_iff.1 hx).1;rcases h.2 with⟨e,e2⟩ | ⟨g,cap,cur,e,_,hg,_⟩
 ·omega
 ·injection e with e1 e2 e3;subst e1;have hc:=World.ownsRow.cells h (g:=g) rfl i _ (elV_at F i x hx);rw[add_flat,Nat.zero_add] at hc;exact⟨g,rfl,Blk.lt hg,hc⟩
end Go.Proofs.YtlpojfgeocpkeaaGreatDoor
