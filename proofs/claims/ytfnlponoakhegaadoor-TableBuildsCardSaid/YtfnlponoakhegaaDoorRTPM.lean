/- TableBuilds: the tied card: for any number, level and acts the law returns true, and its arguments read as before. No condition. -/
import Derived.Test.YtfnlponoakhegaaDoorB29
import Derived.Test.YtfnlponoakhegaaDoorRTJ
import Derived.Test.YtfnlponoakhegaaDoorCards
import Derived.Test.YtfnlponoakhegaaDoorTie
namespace Go.Proofs.YtfnlponoakhegaaDoor
open Go.ChangeShapes Go.WideShapes Go.ChangeAt Go.RowKit Go.Joins Go.Deep
open Go.ChangeMaps (open_string)
set_option linter.unusedVariables false
set_option linter.unusedSimpArgs false
set_option maxRecDepth 100000 in
theorem builds_call {H : Type} {enc : TypeId × Value → H} {W : World} {base : Nat} {v : Value} {d : DataW H} {p : List MemPlace} (hG : Gl W)
    (hv : Value.okWide Tryd.prog W .any base 46 v) (h : DataW.Trod enc Tryd.prog W 0 (fun _ => true) true 46 v d p) (hp : ∀ x ∈ p, x.block < W.heap.size) (a b : Int) (ha : 0 ≤ a ∧ a ≤ 18446744073709551615) :
    Calls Tryd.prog 4 #[.int .u64 a, .int .i64 b, v] W fun e w' => e = .returned (.bool true) ∧ Below W.heap.size W w' := by
  obtain ⟨A, l, cap, rfl, hr, hl, hx⟩ := acts_open hv h hp
  have := Builds_any a.toNat b A l cap W hG hr (by unfold maxLen at hl; omega) hx
  rw [show ((a.toNat : Nat) : Int) = a from by omega] at this
  exact this

set_option maxRecDepth 100000 in
theorem tbuilds_lifted (os : Os) (started : os.Started) (H : Type) (enc : TypeId × Value → H) :
    ReturnsInHanded {} Tryd.checked os 4 .any (fun w args => (Rows.tableBuildsSpec.pre enc Tryd.prog Tryd.f4 Rows.tableBuildsRow.domain false w args ∧ laidMetH Tryd.prog Rows.tableBuildsRow.laid w) ∧ sizedMet enc Tryd.prog Tryd.f4 (OpenSpec.ofChange Rows.tableBuildsSpec) false w args)
      (Rows.tableBuildsSpec.post enc Tryd.prog Tryd.f4 false true false false) := by
  refine rih_and_shaped (C := Tryd.checked) (X := fun w _ => laidMetH Tryd.prog Rows.tableBuildsRow.laid w) (fun _ _ _ hh h => h.of_heap hh) Trydown started (by kernel_rfl) Tryd.func4
    (ChangeSpec.witness_shaped (enc := enc) (C := Tryd.checked) (os := os) (X := fun w _ => laidMetH Tryd.prog Rows.tableBuildsRow.laid w) false (World.laidAll Tryd.prog os Rows.tableBuildsRow.laid) #[.int .u64 0, .int .i64 0, .slice none 0 0] 8 (World.laidAll_os _ _ _)
      (World.shaped_of_ZipB (by kernel_rfl) (by kernel_rfl)) (by kernel_rfl) (by kernel_rfl) (by kernel_rfl)
      (by rw [MakeChecks.laidMetH_plain _ _ _ (by kernel_rfl)]; exact laidMet_laidAll _ (by kernel_rfl) (by kernel_rfl))) ?_
  intro W base args ds gs before hval0 hW hc hwt hL hsh _
  have hval : ∀ (j : Nat) t v, Tryd.f4.params[j]? = some t → args[j]? = some v → Value.okWide Tryd.prog W .any base t v := hval0
  have hW0 := hW
  have hlt := hW.lt
  obtain ⟨p, q, hA0, hV, rfl, _, _⟩ := hW
  have hA : DataW.TrodAll enc Tryd.prog W 0 (fun _ => true) true Tryd.f4.params.toList args.toList ds p := hA0
  rw [Tryd.params4] at hA hval
  obtain ⟨v0, vs0, d0, ds0, p0, q0, hargs, rfl, rfl, h0, r0⟩ := trodAll_cons hA
  obtain ⟨v1, vs1, d1, ds1, p1, q1, rfl, rfl, rfl, h1, r1⟩ := trodAll_cons r0
  obtain ⟨v2, vs2, d2, ds2, p2, q2, rfl, rfl, rfl, h2, r2⟩ := trodAll_cons r1
  obtain ⟨rfl, rfl, rfl⟩ := trodAll_nil r2
  obtain rfl : args = #[v0, v1, v2] := by cases args; simp_all
  obtain ⟨rfl, rfl⟩ := trodVars_none hV
  obtain ⟨nn, rfl, rfl, rfl, w_nn⟩ := open_int Tryd.underlying24 (hval 0 24 v0 rfl rfl) h0
  have b_nn := bounds_u64 w_nn
  obtain ⟨lv, rfl, rfl, rfl, w_lv⟩ := open_int Tryd.underlying3 (hval 1 3 v1 rfl rfl) h1
  have b_lv := bounds_i64 w_lv
  have acts := And.intro (hval 2 46 v2 rfl rfl) h2
  refine (builds_call (gl_of hL hsh) acts.1 acts.2 (fun x hx => by simpa using hlt x (by simpa using hx)) nn lv b_nn).mono fun e W' ⟨he, hb⟩ => ⟨_, he, ?_⟩
  exact law_post Trydlaid Tryd.underlying4 hW0 rfl rfl (by kernel_rfl) rfl hb

theorem tbuilds_said : Rows.TableBuildsSaid :=
  OpenClaim.holds_of_wide 4 Tryd.f4 rfl rfl rfl rfl rfl rfl rfl ⟨rfl, rfl, rfl, rfl, rfl⟩ rfl rfl rfl rfl rfl (by kernel_rfl) Tryd.func4 (by kernel_rfl)
    (of_decide_eq_true (by kernel_rfl)) (by unfold Func.isWrapper; first | (rw [if_pos (by decide +kernel)]; kernel_rfl) | (rw [if_neg (by decide +kernel)]; exact ⟨rfl, rfl⟩))
    (fun os started H enc _ => tbuilds_lifted os started H enc)

theorem tbuilds_holds : Rows.TableBuildsCardSaid :=
  Claim7.holds_tied_plain_at .later [] _ _ _ _ tbuilds_said (fun _ h => by cases h) (by kernel_rfl) (fun _ h => by cases h) tableBuilds_row_tie rfl ⟨rfl, rfl⟩ (by kernel_rfl) rfl
    (fun f fn hf hfn => by
      obtain rfl : f = 4 := Option.some.inj ((show Tryd.prog.funcNamed "copyhold/copyholdlaw12.TableBuilds" = some 4 by kernel_rfl).symm.trans hf) |>.symm
      obtain rfl : fn = Tryd.f4 := (Option.some.inj (Tryd.func4.symm.trans hfn)).symm
      refine ⟨by kernel_rfl, fun j t ht => ?_⟩
      have hall : (Tryd.f4.params.toList.all fun u => !Tryd.prog.wantsStandIn u) = true := by kernel_rfl
      have hm : t ∈ Tryd.f4.params.toList := by simpa using Array.mem_of_getElem? ht
      have h2 : Tryd.prog.wantsStandIn t = false := by simpa using List.all_eq_true.1 hall t hm
      exact h2)
    (by kernel_rfl)

#print axioms tbuilds_holds
end Go.Proofs.YtfnlponoakhegaaDoor
