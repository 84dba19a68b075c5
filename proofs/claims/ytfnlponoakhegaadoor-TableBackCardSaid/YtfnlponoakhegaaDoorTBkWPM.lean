/- TableBack: the tied card: for any entries and any number the law returns true, and its arguments read as before. No condition. -/
import Derived.Test.YtfnlponoakhegaaDoorM22
import Derived.Test.YtfnlponoakhegaaDoorTBkWJ
import Derived.Test.YtfnlponoakhegaaDoorCards
import Derived.Test.YtfnlponoakhegaaDoorTie
namespace Go.Proofs.YtfnlponoakhegaaDoor
open Go.ChangeShapes Go.WideShapes Go.ChangeAt Go.RowKit Go.Joins Go.Deep
open Go.ChangeMaps (open_string)
set_option linter.unusedVariables false
set_option linter.unusedSimpArgs false
set_option maxRecDepth 100000 in
theorem back_call {H : Type} {enc : TypeId × Value → H} {W : World} {base : Nat} {v : Value} {d : DataW H} {p : List MemPlace} (hG : Gl W)
    (hv : Value.okWide Tryd.prog W .any base 41 v) (h : DataW.Trod enc Tryd.prog W 0 (fun _ => true) true 41 v d p) (hp : ∀ x ∈ p, x.block < W.heap.size) (a : Int) (ha : 0 ≤ a ∧ a ≤ 18446744073709551615) :
    Calls Tryd.prog 5 #[v, .int .u64 a] W fun e w' => e = .returned (.bool true) ∧ Below W.heap.size W w' := by
  obtain ⟨A, l, cap, rfl, hr, hl, hx⟩ := ents_open hv h hp
  have := TBack_any A l cap a.toNat W hG hr (by unfold maxLen at hl; omega) hx (by omega)
  rw [show ((a.toNat : Nat) : Int) = a from by omega] at this
  exact this

set_option maxRecDepth 100000 in
theorem tback_lifted (os : Os) (started : os.Started) (H : Type) (enc : TypeId × Value → H) :
    ReturnsInHanded {} Tryd.checked os 5 .any (fun w args => (Rows.tableBackSpec.pre enc Tryd.prog Tryd.f5 Rows.tableBackRow.domain false w args ∧ laidMetH Tryd.prog Rows.tableBackRow.laid w) ∧ sizedMet enc Tryd.prog Tryd.f5 (OpenSpec.ofChange Rows.tableBackSpec) false w args)
      (Rows.tableBackSpec.post enc Tryd.prog Tryd.f5 false true false false) := by
  refine rih_and_shaped (C := Tryd.checked) (X := fun w _ => laidMetH Tryd.prog Rows.tableBackRow.laid w) (fun _ _ _ hh h => h.of_heap hh) Trydown started (by kernel_rfl) Tryd.func5
    (ChangeSpec.witness_shaped (enc := enc) (C := Tryd.checked) (os := os) (X := fun w _ => laidMetH Tryd.prog Rows.tableBackRow.laid w) false (World.laidAll Tryd.prog os Rows.tableBackRow.laid) #[.slice none 0 0, .int .u64 0] 8 (World.laidAll_os _ _ _)
      (World.shaped_of_ZipB (by kernel_rfl) (by kernel_rfl)) (by kernel_rfl) (by kernel_rfl) (by kernel_rfl)
      (by rw [MakeChecks.laidMetH_plain _ _ _ (by kernel_rfl)]; exact laidMet_laidAll _ (by kernel_rfl) (by kernel_rfl))) ?_
  intro W base args ds gs before hval0 hW hc hwt hL hsh _
  have hval : ∀ (j : Nat) t v, Tryd.f5.params[j]? = some t → args[j]? = some v → Value.okWide Tryd.prog W .any base t v := hval0
  have hW0 := hW
  have hlt := hW.lt
  obtain ⟨p, q, hA0, hV, rfl, _, _⟩ := hW
  have hA : DataW.TrodAll enc Tryd.prog W 0 (fun _ => true) true Tryd.f5.params.toList args.toList ds p := hA0
  rw [Tryd.params5] at hA hval
  obtain ⟨v0, vs0, d0, ds0, p0, q0, hargs, rfl, rfl, h0, r0⟩ := trodAll_cons hA
  obtain ⟨v1, vs1, d1, ds1, p1, q1, rfl, rfl, rfl, h1, r1⟩ := trodAll_cons r0
  obtain ⟨rfl, rfl, rfl⟩ := trodAll_nil r1
  obtain rfl : args = #[v0, v1] := by cases args; simp_all
  obtain ⟨rfl, rfl⟩ := trodVars_none hV
  have ents := And.intro (hval 0 41 v0 rfl rfl) h0
  obtain ⟨at_, rfl, rfl, rfl, w_at_⟩ := open_int Tryd.underlying24 (hval 1 24 v1 rfl rfl) h1
  have b_at_ := bounds_u64 w_at_
  refine (back_call (gl_of hL hsh) ents.1 ents.2 (fun x hx => by simpa using hlt x (by simpa using hx)) at_ b_at_).mono fun e W' ⟨he, hb⟩ => ⟨_, he, ?_⟩
  exact law_post Trydlaid Tryd.underlying4 hW0 rfl rfl (by kernel_rfl) rfl hb

theorem tback_said : Rows.TableBackSaid :=
  OpenClaim.holds_of_wide 5 Tryd.f5 rfl rfl rfl rfl rfl rfl rfl ⟨rfl, rfl, rfl, rfl, rfl⟩ rfl rfl rfl rfl rfl (by kernel_rfl) Tryd.func5 (by kernel_rfl)
    (of_decide_eq_true (by kernel_rfl)) (by unfold Func.isWrapper; first | (rw [if_pos (by decide +kernel)]; kernel_rfl) | (rw [if_neg (by decide +kernel)]; exact ⟨rfl, rfl⟩))
    (fun os started H enc _ => tback_lifted os started H enc)

theorem tback_holds : Rows.TableBackCardSaid :=
  Claim7.holds_tied_plain_at .later [] _ _ _ _ tback_said (fun _ h => by cases h) (by kernel_rfl) (fun _ h => by cases h) tableBack_row_tie rfl ⟨rfl, rfl⟩ (by kernel_rfl) rfl
    (fun f fn hf hfn => by
      obtain rfl : f = 5 := Option.some.inj ((show Tryd.prog.funcNamed "copyhold/copyholdlaw12.TableBack" = some 5 by kernel_rfl).symm.trans hf) |>.symm
      obtain rfl : fn = Tryd.f5 := (Option.some.inj (Tryd.func5.symm.trans hfn)).symm
      refine ⟨by kernel_rfl, fun j t ht => ?_⟩
      have hall : (Tryd.f5.params.toList.all fun u => !Tryd.prog.wantsStandIn u) = true := by kernel_rfl
      have hm : t ∈ Tryd.f5.params.toList := by simpa using Array.mem_of_getElem? ht
      have h2 : Tryd.prog.wantsStandIn t = false := by simpa using List.all_eq_true.1 hall t hm
      exact h2)
    (by kernel_rfl)

#print axioms tback_holds
end Go.Proofs.YtfnlponoakhegaaDoor
