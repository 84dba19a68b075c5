/- Contracts: List. -/
import Derived.Test.YtlpojfgeocpkeaaGreatDoorX03
import Derived.Test.YtlpojfgeocpkeaaGreatDoorIterJ
namespace Go.Proofs.YtlpojfgeocpkeaaGreatDoor
open Go.RowKit
set_option linter.unusedVariables false
set_option linter.unusedSimpArgs false
set_option maxRecDepth 100000 in
set_option maxHeartbeats 1000000 in
theorem List_raw {w:World}{F:Nat→Prop}{d:Nat}{L:Lay}{s:Dsk}(h:DskAt w F d L s)(hnl:s.names.length<1073741824) :
  Calls Tryz.prog 18 #[.pointer (some ⟨d,0,none⟩)] w fun e w'=>∃(v:Value) (ss:List (List UInt8)),e=.returned v∧ss.Perm (strKeys (nmD (mvM L.blk s.names))) ∧
   w'.ownsRow 0 9 1 v ss.length ((ss.mergeSort (fun x y=>decide (x≤y))).map encStr)∧Below w.heap.size w w':=by
 have hn:=Lib.hid (none_any h);have c1:=h.box.cell 1;have hk:=fun (W:World)=>callsIn_wide.1 (Tryz.maps_Keys_51 (some L.gN) W)
 have hsz:Maps.size (nmD (mvM L.blk s.names))<1073741824:=by rw[nmD_size,mvM_len];exact hnl
 have hs:=callsIn_wide.1 (Tryz.slices_Sorted_keys_50_51 L.gN _ _ ptrR w h.names (by unfold maxLen;omega) (by omega));replace hk:=Lib.hid hk;replace hs:=Lib.hid hs;clear hsz
 go_enter Tryz.func18,Tryz.ntmps18
 go_wp2_with fail
 refine hn.out.mono ?_;rintro e w' ⟨rfl,rfl⟩;go_wp2_with fail
 refine (hk.out _).mono ?_;rintro e w' ⟨rfl,rfl⟩;go_wp2_with fail
 refine hs.out.mono ?_;rintro e w' ⟨v,ss,rfl,hS,hrow,hnil,hb⟩;replace hnil:=Lib.hid hnil;replace hS:=Lib.hid hS;go_wp2_with fail
 go_ret
 exact⟨v,ss,rfl,hS.out,own_base hrow,((Below.refl _ w).alloc (Nat.le_refl _) _).trans (hb.mono (by simp))⟩
theorem before_lt:∀a b:List UInt8,bytesBefore a b=true→a<b
 | [],[],h=>by simp[bytesBefore] at h
 | [],_::_,_=>List.nil_lt_cons _ _
 | _::_,[],h=>by simp[bytesBefore] at h
 | x::r,y::s,h=>by
  simp only[bytesBefore,Bool.or_eq_true,Bool.and_eq_true,beq_iff_eq,decide_eq_true_eq] at h;rw[List.cons_lt_cons_iff];rcases h with h | ⟨h1,h2⟩
  ·exact .inl h
  ·exact .inr ⟨h1,before_lt r s h2⟩
theorem MapAt.rising {P:Program}{k:TypeId}{w:World}{g:Nat}{m:NM}(h:MapAt P k w g m)(hk:P.underlying k=some .string):m.Pairwise (fun p q=>bytesBefore p.1 q.1=true):=by
 obtain⟨es,e,hp,_⟩:=World.ownsMap.canon h (Maps.string_keyed hk);unfold nmD at e;injection e with e;subst e;rw[List.pairwise_map] at hp;exact hp
theorem sorted_keys {m:NM}(hm:m.Pairwise (fun p q=>bytesBefore p.1 q.1=true)){ss:List (List UInt8)}(hp:ss.Perm (m.map fun p=>p.1)):ss.mergeSort (fun x y=>decide (x≤y))=m.map fun p=>p.1:=by
 have tr:∀a b c:List UInt8,leB a b=true→leB b c=true→leB a c=true:=fun a b c h1 h2=>by simp only[leB,decide_eq_true_eq] at *;exact List.le_trans h1 h2
 have toN:∀a b:List UInt8,(leB a b||leB b a)=true:=fun a b=>by simp only[leB,Bool.or_eq_true,decide_eq_true_eq];exact List.le_total a b
 refine List.Perm.eq_of_pairwise (le:=fun a b=>leB a b=true) (fun a b _ _ h1 h2=>?_) (List.pairwise_mergeSort tr toN ss) ?_ ((List.mergeSort_perm ss leB).trans hp)
 ·simp only[leB,decide_eq_true_eq] at h1 h2;exact List.le_antisymm h1 h2
 ·rw[List.pairwise_map]
  exact hm.imp fun h=>by simp only[leB,decide_eq_true_eq];exact List.le_of_lt (before_lt _ _ h)
theorem List_any {w:World}{F:Nat→Prop}{d:Nat}{L:Lay}{s:Dsk}(h:DskAt w F d L s)(hnl:s.names.length<1073741824) :
  Calls Tryz.prog 18 #[.pointer (some ⟨d,0,none⟩)] w fun e w'=>∃v:Value,e=.returned v∧w'.ownsRow 0 9 1 v s.names.length (s.names.map fun p=>.string (bs p.1))∧Below w.heap.size w w':=by
 refine (List_raw h hnl).mono ?_;rintro e w' ⟨v,ss,rfl,hS,hrow,hb⟩;have hr:=h.names.rising Tryz.underlying9
 have hr2:s.names.Pairwise (fun p q=>bytesBefore p.1 q.1=true):=by
  unfold mvM at hr;rw[List.pairwise_map] at hr;exact hr
 have hk:strKeys (nmD (mvM L.blk s.names))=s.names.map fun p=>p.1:=by
  unfold nmD strKeys mvM;simp[nmE,strOf,Function.comp_def]
 rw[hk] at hS
 have hl:ss.length=s.names.length:=by rw[hS.length_eq,List.length_map]
 rw[sorted_keys hr2 hS,hl,List.map_map] at hrow;exact⟨v,rfl,hrow,hb⟩
end Go.Proofs.YtlpojfgeocpkeaaGreatDoor
