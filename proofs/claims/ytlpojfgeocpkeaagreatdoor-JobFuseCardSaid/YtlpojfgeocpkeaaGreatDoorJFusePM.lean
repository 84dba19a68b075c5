/- JobFuse: the tied card: for any lists, fuse and crash's choices the law returns true, and its arguments read as before. No condition. -/
import Derived.Test.YtlpojfgeocpkeaaGreatDoorV38
import Derived.Test.YtlpojfgeocpkeaaGreatDoorJF3J
import Derived.Test.YtlpojfgeocpkeaaGreatDoorCards
import Derived.Test.YtlpojfgeocpkeaaGreatDoorTie
namespace Go.Proofs.YtlpojfgeocpkeaaGreatDoor
open Go.ChangeShapes Go.WideShapes Go.ChangeAt Go.RowKit Go.Joins Go.Deep Go.Lib Go.Sort
open Go.ChangeMaps (open_string)
set_option linter.unusedVariables false
set_option linter.unusedSimpArgs false
theorem star_es: "*"++ "errors.errorString"= "*errors.errorString":=by decide
set_option maxRecDepth 100000 in
theorem row_es (u:TypeId)(h:Tryz.prog.typeName? 3 u=some "*errors.errorString"):u=245 :=
 typeName_ptr_named (nm:= "errors.errorString") (by rw[star_es];kernel_rfl) (by kernel_rfl) (by decide) u (by rw[star_es];exact h)
theorem ty_syn:(Tryz.prog.globals[2]?).map (·.type)=some 110:=by kernel_rfl
theorem ty_ran:(Tryz.prog.globals[3]?).map (·.type)=some 110:=by kernel_rfl
set_option maxRecDepth 100000 in
theorem five_of {W:World}(hL:laidMet Tryz.prog Rows.jobFuseRow.laid W)(hsh:W.ShapedOpen Tryz.prog):Gl W∧Laid5 W∧7≤W.heap.size:=by
 obtain⟨hG,hT,h7⟩:=job_glo hL hsh;have h5:=hL.tail.tail.tail.tail.tail;have h6:=h5.tail;obtain⟨a0,s0,hv0,-,-,-⟩:=laid_sentinel h6 g_syn ty_syn Tryz.underlying110 row_es Tryz.underlying245 Tryz.underlying247 rfl rfl Tryz.underlying9 (by kernel_rfl) (by kernel_rfl);obtain⟨a1,s1,hv1,-,-,-⟩:=laid_sentinel h5 g_ran ty_ran Tryz.underlying110 row_es Tryz.underlying245 Tryz.underlying247 rfl rfl Tryz.underlying9 (by kernel_rfl) (by kernel_rfl);exact⟨hG,⟨hT,⟨_,_,hv0⟩,⟨_,_,hv1⟩⟩,h7⟩
set_option maxRecDepth 100000 in
theorem jfuse_call {H:Type}{enc:TypeId × Value→H}{W:World}{base:Nat}{v v3:Value}{d d3:DataW H}{p p3:List MemPlace}(hL:laidMetH Tryz.prog Rows.jobFuseRow.laid W)(hsh:W.ShapedOpen Tryz.prog)
  (h1:Value.okWide Tryz.prog W .any base 22 v∧DataW.Trod enc Tryz.prog W 0 (fun _=>true) true 22 v d p)
  (h3:Value.okWide Tryz.prog W .any base 58 v3∧DataW.Trod enc Tryz.prog W 0 (fun _=>true) true 58 v3 d3 p3)
  (hp:∀x∈p,x.block<W.heap.size) (hp3:∀x∈p3,x.block<W.heap.size) (a:Int) (ha:-9223372036854775808≤a∧a≤9223372036854775807) :
  Calls Tryz.prog 5 #[v,.int .i64 a,v3] W fun e w'=>e=.returned (.bool true)∧Below W.heap.size W w':=by
 rw[MakeChecks.laidMetH_plain _ _ _ (by kernel_rfl)] at hL;obtain⟨hG,h5,h7⟩:=five_of hL hsh;obtain⟨A,ls,cap,rfl,hr,hl,hx⟩:=lists_open h1.1 h1.2 hp;obtain⟨c,KA,kc,PA,pc,rfl,hc,hc1,hc2⟩:=crashJ_open h3.1 h3.2 hp3;unfold maxLen at hc1 hc2;exact JobFuse_any a ha.2 c KA PA kc pc hc (by omega) (by omega) hr hl hx hG h5 h7
set_option maxRecDepth 100000 in
theorem jfuse_lifted (os:Os)(started:os.Started)(H:Type)(enc:TypeId × Value→H) :
  ReturnsInHanded {} Tryz.checked os 5 .any (fun w args=>(Rows.jobFuseSpec.pre enc Tryz.prog Tryz.f5 Rows.jobFuseRow.domain false w args∧laidMetH Tryz.prog Rows.jobFuseRow.laid w)∧sizedMet enc Tryz.prog Tryz.f5 (OpenSpec.ofChange Rows.jobFuseSpec) false w args)
   (Rows.jobFuseSpec.post enc Tryz.prog Tryz.f5 false true false false):=by
 refine rih_and_shaped (C:=Tryz.checked) (X:=fun w _=>laidMetH Tryz.prog Rows.jobFuseRow.laid w) (fun _ _ _ hh h=>h.of_heap hh) Tryzown started (by kernel_rfl) Tryz.func5
  (ChangeSpec.witness_shaped (enc:=enc) (C:=Tryz.checked) (os:=os) (X:=fun w _=>laidMetH Tryz.prog Rows.jobFuseRow.laid w) false (World.laidAll Tryz.prog os Rows.jobFuseRow.laid) #[.slice none 0 0,.int .i64 0,.agg #[.int .i64 0,.slice none 0 0,.slice none 0 0]] 8 (World.laidAll_os _ _ _)
   (World.shaped_of_ZipB (by kernel_rfl) (by kernel_rfl)) (by kernel_rfl) (by kernel_rfl) (by kernel_rfl)
   (by rw[MakeChecks.laidMetH_plain _ _ _ (by kernel_rfl)];exact laidMet_laidAll _ (by kernel_rfl) (by kernel_rfl))) ?_
 intro W base args ds gs before hval0 hW hc hwt hL hsh _;have hval:∀(j:Nat) t v,Tryz.f5.params[j]? = some t→args[j]? = some v→Value.okWide Tryz.prog W .any base t v:=hval0;have hW0:=hW;have hlt:=hW.lt;obtain⟨p,q,hA0,hV,rfl,_,_⟩:=hW;have hA:DataW.TrodAll enc Tryz.prog W 0 (fun _=>true) true Tryz.f5.params.toList args.toList ds p:=hA0;rw[Tryz.params5] at hA hval;obtain⟨v0,vs0,d0,ds0,p0,q0,hargs,rfl,rfl,h0,r0⟩:=trodAll_cons hA;obtain⟨v1,vs1,d1,ds1,p1,q1,rfl,rfl,rfl,h1,r1⟩:=trodAll_cons r0;obtain⟨v2,vs2,d2,ds2,p2,q2,rfl,rfl,rfl,h2,r2⟩:=trodAll_cons r1;obtain⟨rfl,rfl,rfl⟩:=trodAll_nil r2
 obtain rfl:args=#[v0,v1,v2]:=by cases args;simp_all
 obtain⟨rfl,rfl⟩:=trodVars_none hV;have ls:=And.intro (hval 0 22 v0 rfl rfl) h0;obtain⟨a,rfl,rfl,rfl,w_a⟩:=open_int Tryz.underlying3 (hval 1 3 v1 rfl rfl) h1;have b_a:=bounds_i64 w_a;have cc:=And.intro (hval 2 58 v2 rfl rfl) h2;refine (jfuse_call hL hsh ls cc (fun x hx=>by simpa using hlt x (by simp[hx])) (fun x hx=>by simpa using hlt x (by simp[hx])) a b_a).mono fun e W' ⟨he,hb⟩=>⟨_,he,?_⟩;exact law_post Tryzlaid Tryz.underlying4 hW0 rfl rfl (by kernel_rfl) rfl hb
theorem jfuse_said:Rows.JobFuseSaid :=
 OpenClaim.holds_of_wide 5 Tryz.f5 rfl rfl rfl rfl rfl rfl rfl ⟨rfl,rfl,rfl,rfl,rfl⟩ rfl rfl rfl rfl rfl (by kernel_rfl) Tryz.func5 (by kernel_rfl)
  (of_decide_eq_true (by kernel_rfl)) (by unfold Func.isWrapper;first | (rw[if_pos (by decide +kernel)];kernel_rfl) | (rw[if_neg (by decide +kernel)];exact⟨rfl,rfl⟩))
  (fun os started H enc _=>jfuse_lifted os started H enc)
theorem jfuse_holds:Rows.JobFuseCardSaid :=
 Claim7.holds_tied_plain_at .later [] _ _ _ _ jfuse_said (fun _ h=>by cases h) (by kernel_rfl) (fun _ h=>by cases h) jobFuse_row_tie rfl ⟨rfl,rfl⟩ (by kernel_rfl) rfl
  (fun f fn hf hfn=>by
   obtain rfl:f=5:=Option.some.inj ((show Tryz.prog.funcNamed "copyhold/copyholdlaw17.JobFuse"=some 5 by kernel_rfl).symm.trans hf) |>.symm
   obtain rfl:fn=Tryz.f5:=(Option.some.inj (Tryz.func5.symm.trans hfn)).symm;refine⟨by kernel_rfl,fun j t ht=>?_⟩
   have hall:(Tryz.f5.params.toList.all fun u=>!Tryz.prog.wantsStandIn u)=true:=by kernel_rfl
   have hm:t∈Tryz.f5.params.toList:=by simpa using Array.mem_of_getElem? ht
   have h2:Tryz.prog.wantsStandIn t=false:=by simpa using List.all_eq_true.1 hall t hm
   exact h2)
  (by kernel_rfl)
#print axioms jfuse_holds
end Go.Proofs.YtlpojfgeocpkeaaGreatDoor
