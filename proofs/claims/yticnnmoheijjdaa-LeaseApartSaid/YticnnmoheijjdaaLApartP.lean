/- LeaseApart: for any lease, any time, any texts and any number the law returns true, and its arguments read as before. No condition. -/
import Derived.Test.YticnnmoheijjdaaLApart
namespace Go.Proofs.Yticnnmoheijjdaa
open Go.ChangeShapes Go.WideShapes Go.ChangeAt Go.RowKit Go.Joins
open Go.ChangeMaps (open_string)
set_option linter.unusedVariables false

set_option maxRecDepth 100000 in
theorem apart_lifted (os : Os) (started : os.Started) (H : Type) (enc : TypeId × Value → H) :
    ReturnsInHanded {} Try.checked os 7 .any (Rows.leaseApartSpec.pre6 enc Try.prog Try.f7 Rows.leaseApartRow.domain false) (Rows.leaseApartSpec.post enc Try.prog Try.f7 false true false false) := by
  refine returnsInHanded_of_change (C := Try.checked) Tryown started (by kernel_rfl) Try.func7
    (ChangeSpec.witness6 (enc := enc) (C := Try.checked) false ⟨#[], #[.agg #[.string ⟨#[]⟩, .int .u64 0], .int .u64 0, .string ⟨#[]⟩, .string ⟨#[]⟩, .int .u64 0], []⟩ 8 (by kernel_rfl) (by kernel_rfl) (by kernel_rfl) (by kernel_rfl)) ?_
  intro W base args ds gs before hval0 hW _ _
  have hval : ∀ (j : Nat) t v, Try.f7.params[j]? = some t → args[j]? = some v → Value.okWide Try.prog W .any base t v := hval0
  have hW0 := hW
  have hlt := hW.lt
  obtain ⟨p, q, hA0, hV, rfl, _, _⟩ := hW
  have hA : DataW.TrodAll enc Try.prog W 0 (fun _ => true) true Try.f7.params.toList args.toList ds p := hA0
  rw [Try.params7] at hA hval
  obtain ⟨v0, vs0, d0, ds0, p0, q0, hargs, rfl, rfl, h0, r0⟩ := trodAll_cons hA
  obtain ⟨v1, vs1, d1, ds1, p1, q1, rfl, rfl, rfl, h1, r1⟩ := trodAll_cons r0
  obtain ⟨v2, vs2, d2, ds2, p2, q2, rfl, rfl, rfl, h2, r2⟩ := trodAll_cons r1
  obtain ⟨v3, vs3, d3, ds3, p3, q3, rfl, rfl, rfl, h3, r3⟩ := trodAll_cons r2
  obtain ⟨v4, vs4, d4, ds4, p4, q4, rfl, rfl, rfl, h4, r4⟩ := trodAll_cons r3
  obtain ⟨rfl, rfl, rfl⟩ := trodAll_nil r4
  obtain rfl : args = #[v0, v1, v2, v3, v4] := by cases args; simp_all
  obtain ⟨rfl, rfl⟩ := trodVars_none hV
  obtain ⟨c0_0, c0_1, y0_0, y0_1, m0, rfl, rfl, rfl, g0_0, g0_1⟩ := open_agg2 Try.underlying24 (by kernel_rfl) (by kernel_rfl : Try.prog.cellsOf 24 = 2) (hval 0 24 v0 rfl rfl) h0
  obtain ⟨o, e0_0, rfl, s_o⟩ := DataW.trod_string Try.underlying9 g0_0
  obtain ⟨u, e0_1, rfl, w_u⟩ := DataW.trod_int Try.underlying22 g0_1
  have b_u := bounds_u64 w_u
  simp at e0_0 e0_1
  subst e0_0 e0_1
  obtain ⟨now, rfl, rfl, rfl, w_now⟩ := open_int Try.underlying22 (hval 1 22 v1 rfl rfl) h1
  have b_now := bounds_u64 w_now
  obtain ⟨owner, rfl, rfl, rfl, s_owner⟩ := open_string Try.underlying9 (hval 2 9 v2 rfl rfl) h2
  obtain ⟨dst, rfl, rfl, rfl, s_dst⟩ := open_string Try.underlying9 (hval 3 9 v3 rfl rfl) h3
  obtain ⟨d, rfl, rfl, rfl, w_d⟩ := open_int Try.underlying22 (hval 4 22 v4 rfl rfl) h4
  have b_d := bounds_u64 w_d
  refine (apart_walk o u now owner dst d W b_now.1 b_now.2 b_d.1 b_d.2 s_owner s_dst).mono fun e W' ⟨he, hb⟩ => ⟨_, he, ?_⟩
  exact law_post Trylaid Try.underlying4 hW0 rfl rfl (by kernel_rfl) rfl hb

theorem apart_holds : Rows.LeaseApartSaid :=
  OpenClaim.holds_of_wide 7 Try.f7 rfl rfl rfl rfl rfl rfl rfl ⟨rfl, rfl, rfl, rfl, rfl⟩ rfl rfl rfl rfl rfl (by kernel_rfl) Try.func7 (by kernel_rfl)
    (of_decide_eq_true (by kernel_rfl)) (by unfold Func.isWrapper; first | (rw [if_pos (by decide +kernel)]; kernel_rfl) | (rw [if_neg (by decide +kernel)]; exact ⟨rfl, rfl⟩))
    (fun os started H enc _ => apart_lifted os started H enc)

#print axioms apart_holds
end Go.Proofs.Yticnnmoheijjdaa
