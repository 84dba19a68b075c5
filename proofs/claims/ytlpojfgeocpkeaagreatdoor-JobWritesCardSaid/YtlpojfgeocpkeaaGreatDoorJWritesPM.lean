/- JobWrites: the tied card: for any lists, level and number the law returns true, and its arguments read as before. No condition. -/
import Derived.Test.YtlpojfgeocpkeaaGreatDoorX38
import Derived.Test.YtlpojfgeocpkeaaGreatDoorJW5J
import Derived.Test.YtlpojfgeocpkeaaGreatDoorCards
import Derived.Test.YtlpojfgeocpkeaaGreatDoorTie
namespace Go.Proofs.YtlpojfgeocpkeaaGreatDoor
open Go.ChangeShapes Go.WideShapes Go.ChangeAt Go.RowKit Go.Joins Go.Deep
open Go.ChangeMaps (open_string)
set_option linter.unusedVariables false
set_option linter.unusedSimpArgs false
set_option maxRecDepth 100000 in
theorem jwrites_call {H:Type}{enc:TypeId × Value→H}{W:World}{base:Nat}{v:Value}{d:DataW H}{p:List MemPlace}(hL:laidMetH Tryz.prog Rows.jobWritesRow.laid W)(hsh:W.ShapedOpen Tryz.prog)
  (hv:Value.okWide Tryz.prog W .any base 22 v) (h:DataW.Trod enc Tryz.prog W 0 (fun _=>true) true 22 v d p) (hp:∀x∈p,x.block<W.heap.size) (a b:Int) (hb:0≤b∧b≤4294967295) :
  Calls Tryz.prog 4 #[v,.int .i64 a,.int .u32 b] W fun e w'=>e=.returned (.bool true)∧Below W.heap.size W w':=by
 rw[MakeChecks.laidMetH_plain _ _ _ (by kernel_rfl)] at hL;obtain⟨hG,h5,h7⟩:=job_glo hL hsh;obtain⟨A,ls,cap,rfl,hr,hl,hx⟩:=lists_open hv h hp;obtain⟨u,rfl⟩:∃u:Nat,b=u:=⟨b.toNat,by omega⟩;exact JobWrites_any a u (by omega) hr hl hx hG h5 h7
set_option maxRecDepth 100000 in
theorem jwrites_lifted (os:Os)(started:os.Started)(H:Type)(enc:TypeId × Value→H) :
  ReturnsInHanded {} Tryz.checked os 4 .any (fun w args=>(Rows.jobWritesSpec.pre enc Tryz.prog Tryz.f4 Rows.jobWritesRow.domain false w args∧laidMetH Tryz.prog Rows.jobWritesRow.laid w)∧sizedMet enc Tryz.prog Tryz.f4 (OpenSpec.ofChange Rows.jobWritesSpec) false w args)
   (Rows.jobWritesSpec.post enc Tryz.prog Tryz.f4 false true false false):=by
 refine rih_and_shaped (C:=Tryz.checked) (X:=fun w _=>laidMetH Tryz.prog Rows.jobWritesRow.laid w) (fun _ _ _ hh h=>h.of_heap hh) Tryzown started (by kernel_rfl) Tryz.func4
  (ChangeSpec.witness_shaped (enc:=enc) (C:=Tryz.checked) (os:=os) (X:=fun w _=>laidMetH Tryz.prog Rows.jobWritesRow.laid w) false (World.laidAll Tryz.prog os Rows.jobWritesRow.laid) #[.slice none 0 0,.int .i64 0,.int .u32 0] 8 (World.laidAll_os _ _ _)
   (World.shaped_of_ZipB (by kernel_rfl) (by kernel_rfl)) (by kernel_rfl) (by kernel_rfl) (by kernel_rfl)
   (by rw[MakeChecks.laidMetH_plain _ _ _ (by kernel_rfl)];exact laidMet_laidAll _ (by kernel_rfl) (by kernel_rfl))) ?_
 intro W base args ds gs before hval0 hW hc hwt hL hsh _;have hval:∀(j:Nat) t v,Tryz.f4.params[j]? = some t→args[j]? = some v→Value.okWide Tryz.prog W .any base t v:=hval0;have hW0:=hW;have hlt:=hW.lt;obtain⟨p,q,hA0,hV,rfl,_,_⟩:=hW;have hA:DataW.TrodAll enc Tryz.prog W 0 (fun _=>true) true Tryz.f4.params.toList args.toList ds p:=hA0;rw[Tryz.params4] at hA hval;obtain⟨v0,vs0,d0,ds0,p0,q0,hargs,rfl,rfl,h0,r0⟩:=trodAll_cons hA;obtain⟨v1,vs1,d1,ds1,p1,q1,rfl,rfl,rfl,h1,r1⟩:=trodAll_cons r0;obtain⟨v2,vs2,d2,ds2,p2,q2,rfl,rfl,rfl,h2,r2⟩:=trodAll_cons r1;obtain⟨rfl,rfl,rfl⟩:=trodAll_nil r2
 obtain rfl:args=#[v0,v1,v2]:=by cases args;simp_all
 obtain⟨rfl,rfl⟩:=trodVars_none hV;have ls:=And.intro (hval 0 22 v0 rfl rfl) h0;obtain⟨a,rfl,rfl,rfl,w_a⟩:=open_int Tryz.underlying3 (hval 1 3 v1 rfl rfl) h1;have b_a:=bounds_i64 w_a;obtain⟨b,rfl,rfl,rfl,w_b⟩:=open_int Tryz.underlying43 (hval 2 43 v2 rfl rfl) h2;have b_b:=bounds_u32 w_b;refine (jwrites_call hL hsh ls.1 ls.2 (fun x hx=>by simpa using hlt x (by simpa using hx)) a b b_b).mono fun e W' ⟨he,hb⟩=>⟨_,he,?_⟩;exact law_post Tryzlaid Tryz.underlying4 hW0 rfl rfl (by kernel_rfl) rfl hb
theorem jwrites_said:Rows.JobWritesSaid :=
 OpenClaim.holds_of_wide 4 Tryz.f4 rfl rfl rfl rfl rfl rfl rfl ⟨rfl,rfl,rfl,rfl,rfl⟩ rfl rfl rfl rfl rfl (by kernel_rfl) Tryz.func4 (by kernel_rfl)
  (of_decide_eq_true (by kernel_rfl)) (by unfold Func.isWrapper;first | (rw[if_pos (by decide +kernel)];kernel_rfl) | (rw[if_neg (by decide +kernel)];exact⟨rfl,rfl⟩))
  (fun os started H enc _=>jwrites_lifted os started H enc)
theorem jwrites_holds:Rows.JobWritesCardSaid :=
 Claim7.holds_tied_plain_at .later [] _ _ _ _ jwrites_said (fun _ h=>by cases h) (by kernel_rfl) (fun _ h=>by cases h) jobWrites_row_tie rfl ⟨rfl,rfl⟩ (by kernel_rfl) rfl
  (fun f fn hf hfn=>by
   obtain rfl:f=4:=Option.some.inj ((show Tryz.prog.funcNamed "copyhold/copyholdlaw17.JobWrites"=some 4 by kernel_rfl).symm.trans hf) |>.symm
   obtain rfl:fn=Tryz.f4:=(Option.some.inj (Tryz.func4.symm.trans hfn)).symm;refine⟨by kernel_rfl,fun j t ht=>?_⟩
   have hall:(Tryz.f4.params.toList.all fun u=>!Tryz.prog.wantsStandIn u)=true:=by kernel_rfl
   have hm:t∈Tryz.f4.params.toList:=by simpa using Array.mem_of_getElem? ht
   have h2:Tryz.prog.wantsStandIn t=false:=by simpa using List.all_eq_true.1 hall t hm
   exact h2)
  (by kernel_rfl)
#print axioms jwrites_holds
end Go.Proofs.YtlpojfgeocpkeaaGreatDoor
