/- DiskTwin: for any room and any two rows of acts the law returns true, and its arguments read as before. No condition. -/
import Derived.Test.YtkhicfoikkllmaaDTwin
import Derived.Test.YtkhicfoikkllmaaDOpen
namespace Go.Proofs.Ytkhicfoikkllmaa
open Go.ChangeShapes Go.WideShapes Go.ChangeAt Go.RowKit Go.Joins Go.Deep
open Go.ChangeMaps (open_string)
set_option linter.unusedVariables false
set_option linter.unusedSimpArgs false
set_option maxRecDepth 100000 in
theorem twin_call {H : Type} {enc : TypeId × Value → H} {W : World} {base : Nat} (room : Int) {v1 v2 : Value} {d1 d2 : DataW H} {p1 p2 : List MemPlace}
    (h1 : Value.okWide Try.prog W .any base 22 v1 ∧ DataW.Trod enc Try.prog W 0 (fun _ => true) true 22 v1 d1 p1)
    (h2 : Value.okWide Try.prog W .any base 22 v2 ∧ DataW.Trod enc Try.prog W 0 (fun _ => true) true 22 v2 d2 p2)
    (hp1 : ∀ x ∈ p1, x.block < W.heap.size) (hp2 : ∀ x ∈ p2, x.block < W.heap.size) :
    Calls Try.prog 5 #[.int .i64 room, v1, v2] W fun e w' => e = .returned (.bool true) ∧ Below W.heap.size W w' := by
  obtain ⟨A1, l, c1, rfl, hl, hll⟩ := acts_open h1.1 h1.2 hp1
  obtain ⟨A2, m, c2, rfl, hm, hml⟩ := acts_open h2.1 h2.2 hp2
  exact Twins_any W room A1 A2 l m c1 c2 hl hm hll hml

set_option maxRecDepth 100000 in
theorem twin_lifted (os : Os) (started : os.Started) (H : Type) (enc : TypeId × Value → H) :
    ReturnsInHanded {} Try.checked os 5 .any (Rows.diskTwinSpec.pre6 enc Try.prog Try.f5 Rows.diskTwinRow.domain false) (Rows.diskTwinSpec.post enc Try.prog Try.f5 false true false false) := by
  refine returnsInHanded_of_change (C := Try.checked) Tryown started (by kernel_rfl) Try.func5
    (ChangeSpec.witness6 (enc := enc) (C := Try.checked) false ⟨#[], #[.int .i64 0, .slice none 0 0, .slice none 0 0], []⟩ 8 (by kernel_rfl) (by kernel_rfl) (by kernel_rfl) (by kernel_rfl)) ?_
  intro W base args ds gs before hval0 hW _ _
  have hval : ∀ (j : Nat) t v, Try.f5.params[j]? = some t → args[j]? = some v → Value.okWide Try.prog W .any base t v := hval0
  have hW0 := hW
  have hlt := hW.lt
  obtain ⟨p, q, hA0, hV, rfl, _, _⟩ := hW
  have hA : DataW.TrodAll enc Try.prog W 0 (fun _ => true) true Try.f5.params.toList args.toList ds p := hA0
  rw [Try.params5] at hA hval
  obtain ⟨v0, vs0, d0, ds0, p0, q0, hargs, rfl, rfl, h0, r0⟩ := trodAll_cons hA
  obtain ⟨v1, vs1, d1, ds1, p1, q1, rfl, rfl, rfl, h1, r1⟩ := trodAll_cons r0
  obtain ⟨v2, vs2, d2, ds2, p2, q2, rfl, rfl, rfl, h2, r2⟩ := trodAll_cons r1
  obtain ⟨rfl, rfl, rfl⟩ := trodAll_nil r2
  obtain rfl : args = #[v0, v1, v2] := by cases args; simp_all
  obtain ⟨rfl, rfl⟩ := trodVars_none hV
  obtain ⟨room, rfl, rfl, rfl, w_room⟩ := open_int Try.underlying3 (hval 0 3 v0 rfl rfl) h0
  have b_room := bounds_i64 w_room
  have aa := And.intro (hval 1 22 v1 rfl rfl) h1
  have bb := And.intro (hval 2 22 v2 rfl rfl) h2
  refine (twin_call room aa bb (fun x hx => by simpa using hlt x (by simp [hx])) (fun x hx => by simpa using hlt x (by simp [hx]))).mono fun e W' ⟨he, hb⟩ => ⟨_, he, ?_⟩
  exact law_post Trylaid Try.underlying4 hW0 rfl rfl (by kernel_rfl) rfl hb

theorem twin_holds : Rows.DiskTwinSaid :=
  OpenClaim.holds_of_wide 5 Try.f5 rfl rfl rfl rfl rfl rfl rfl ⟨rfl, rfl, rfl, rfl, rfl⟩ rfl rfl rfl rfl rfl (by kernel_rfl) Try.func5 (by kernel_rfl)
    (of_decide_eq_true (by kernel_rfl)) (by unfold Func.isWrapper; first | (rw [if_pos (by decide +kernel)]; kernel_rfl) | (rw [if_neg (by decide +kernel)]; exact ⟨rfl, rfl⟩))
    (fun os started H enc _ => twin_lifted os started H enc)

#print axioms twin_holds
end Go.Proofs.Ytkhicfoikkllmaa
