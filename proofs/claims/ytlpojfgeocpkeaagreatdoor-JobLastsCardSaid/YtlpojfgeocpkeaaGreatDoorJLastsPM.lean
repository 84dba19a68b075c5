/- JobLasts: the tied card: for any lists and crash's choices the law returns true, and its arguments read as before. No condition. -/
import Derived.Test.YtlpojfgeocpkeaaGreatDoorX39
import Derived.Test.YtlpojfgeocpkeaaGreatDoorJLs3J
import Derived.Test.YtlpojfgeocpkeaaGreatDoorCards
import Derived.Test.YtlpojfgeocpkeaaGreatDoorTie
namespace Go.Proofs.YtlpojfgeocpkeaaGreatDoor
open Go.ChangeShapes Go.WideShapes Go.ChangeAt Go.RowKit Go.Joins Go.Deep
open Go.ChangeMaps (open_string)
set_option linter.unusedVariables false
set_option linter.unusedSimpArgs false
set_option maxRecDepth 100000 in
theorem jlasts_call {H:Type}{enc:TypeId × Value→H}{W:World}{base:Nat}{v v3:Value}{d d3:DataW H}{p p3:List MemPlace}(hL:laidMetH Tryz.prog Rows.jobLastsRow.laid W)(hsh:W.ShapedOpen Tryz.prog)
  (h1:Value.okWide Tryz.prog W .any base 22 v∧DataW.Trod enc Tryz.prog W 0 (fun _=>true) true 22 v d p)
  (h3:Value.okWide Tryz.prog W .any base 58 v3∧DataW.Trod enc Tryz.prog W 0 (fun _=>true) true 58 v3 d3 p3)
  (hp:∀x∈p,x.block<W.heap.size) (hp3:∀x∈p3,x.block<W.heap.size) :
  Calls Tryz.prog 6 #[v,v3] W fun e w'=>e=.returned (.bool true)∧Below W.heap.size W w':=by
 rw[MakeChecks.laidMetH_plain _ _ _ (by kernel_rfl)] at hL;obtain⟨hG,h5,h7⟩:=job_glo hL hsh;obtain⟨A,ls,cap,rfl,hr,hl,hx⟩:=lists_open h1.1 h1.2 hp;obtain⟨c,KA,kc,PA,pc,rfl,hc,hc1,hc2⟩:=crashJ_open h3.1 h3.2 hp3;unfold maxLen at hc1 hc2;exact JobLasts_any c KA PA kc pc hc (by omega) (by omega) hr hl hx hG h5 h7
set_option maxRecDepth 100000 in
theorem jlasts_lifted (os:Os)(started:os.Started)(H:Type)(enc:TypeId × Value→H) :
  ReturnsInHanded {} Tryz.checked os 6 .any (fun w args=>(Rows.jobLastsSpec.pre enc Tryz.prog Tryz.f6 Rows.jobLastsRow.domain false w args∧laidMetH Tryz.prog Rows.jobLastsRow.laid w)∧sizedMet enc Tryz.prog Tryz.f6 (OpenSpec.ofChange Rows.jobLastsSpec) false w args)
   (Rows.jobLastsSpec.post enc Tryz.prog Tryz.f6 false true false false):=by
 refine rih_and_shaped (C:=Tryz.checked) (X:=fun w _=>laidMetH Tryz.prog Rows.jobLastsRow.laid w) (fun _ _ _ hh h=>h.of_heap hh) Tryzown started (by kernel_rfl) Tryz.func6
  (ChangeSpec.witness_shaped (enc:=enc) (C:=Tryz.checked) (os:=os) (X:=fun w _=>laidMetH Tryz.prog Rows.jobLastsRow.laid w) false (World.laidAll Tryz.prog os Rows.jobLastsRow.laid) #[.slice none 0 0,.agg #[.int .i64 0,.slice none 0 0,.slice none 0 0]] 8 (World.laidAll_os _ _ _)
   (World.shaped_of_ZipB (by kernel_rfl) (by kernel_rfl)) (by kernel_rfl) (by kernel_rfl) (by kernel_rfl)
   (by rw[MakeChecks.laidMetH_plain _ _ _ (by kernel_rfl)];exact laidMet_laidAll _ (by kernel_rfl) (by kernel_rfl))) ?_
 intro W base args ds gs before hval0 hW hc hwt hL hsh _;have hval:∀(j:Nat) t v,Tryz.f6.params[j]? = some t→args[j]? = some v→Value.okWide Tryz.prog W .any base t v:=hval0;have hW0:=hW;have hlt:=hW.lt;obtain⟨p,q,hA0,hV,rfl,_,_⟩:=hW;have hA:DataW.TrodAll enc Tryz.prog W 0 (fun _=>true) true Tryz.f6.params.toList args.toList ds p:=hA0;rw[Tryz.params6] at hA hval;obtain⟨v0,vs0,d0,ds0,p0,q0,hargs,rfl,rfl,h0,r0⟩:=trodAll_cons hA;obtain⟨v1,vs1,d1,ds1,p1,q1,rfl,rfl,rfl,h1,r1⟩:=trodAll_cons r0;obtain⟨rfl,rfl,rfl⟩:=trodAll_nil r1
 obtain rfl:args=#[v0,v1]:=by cases args;simp_all
 obtain⟨rfl,rfl⟩:=trodVars_none hV;have ls:=And.intro (hval 0 22 v0 rfl rfl) h0;have cc:=And.intro (hval 1 58 v1 rfl rfl) h1;refine (jlasts_call hL hsh ls cc (fun x hx=>by simpa using hlt x (by simp[hx])) (fun x hx=>by simpa using hlt x (by simp[hx]))).mono fun e W' ⟨he,hb⟩=>⟨_,he,?_⟩;exact law_post Tryzlaid Tryz.underlying4 hW0 rfl rfl (by kernel_rfl) rfl hb
theorem jlasts_said:Rows.JobLastsSaid :=
 OpenClaim.holds_of_wide 6 Tryz.f6 rfl rfl rfl rfl rfl rfl rfl ⟨rfl,rfl,rfl,rfl,rfl⟩ rfl rfl rfl rfl rfl (by kernel_rfl) Tryz.func6 (by kernel_rfl)
  (of_decide_eq_true (by kernel_rfl)) (by unfold Func.isWrapper;first | (rw[if_pos (by decide +kernel)];kernel_rfl) | (rw[if_neg (by decide +kernel)];exact⟨rfl,rfl⟩))
  (fun os started H enc _=>jlasts_lifted os started H enc)
theorem jlasts_holds:Rows.JobLastsCardSaid :=
 Claim7.holds_tied_plain_at .later [] _ _ _ _ jlasts_said (fun _ h=>by cases h) (by kernel_rfl) (fun _ h=>by cases h) jobLasts_row_tie rfl ⟨rfl,rfl⟩ (by kernel_rfl) rfl
  (fun f fn hf hfn=>by
   obtain rfl:f=6:=Option.some.inj ((show Tryz.prog.funcNamed "copyhold/copyholdlaw17.JobLasts"=some 6 by kernel_rfl).symm.trans hf) |>.symm
   obtain rfl:fn=Tryz.f6:=(Option.some.inj (Tryz.func6.symm.trans hfn)).symm;refine⟨by kernel_rfl,fun j t ht=>?_⟩
   have hall:(Tryz.f6.params.toList.all fun u=>!Tryz.prog.wantsStandIn u)=true:=by kernel_rfl
   have hm:t∈Tryz.f6.params.toList:=by simpa using Array.mem_of_getElem? ht
   have h2:Tryz.prog.wantsStandIn t=false:=by simpa using List.all_eq_true.1 hall t hm
   exact h2)
  (by kernel_rfl)
#print axioms jlasts_holds
end Go.Proofs.YtlpojfgeocpkeaaGreatDoor
