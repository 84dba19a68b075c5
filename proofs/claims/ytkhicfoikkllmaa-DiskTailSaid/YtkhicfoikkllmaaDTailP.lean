/- DiskTail: for any room, any row of acts and any crash's choices the law returns true, and its arguments read as before. No condition. -/
import Derived.Test.YtkhicfoikkllmaaDTail
import Derived.Test.YtkhicfoikkllmaaDOpen
namespace Go.Proofs.Ytkhicfoikkllmaa
open Go.ChangeShapes Go.WideShapes Go.ChangeAt Go.RowKit Go.Joins Go.Deep
open Go.ChangeMaps (open_string)
set_option linter.unusedVariables false
set_option linter.unusedSimpArgs false
set_option maxRecDepth 100000 in
theorem tail_call {H : Type} {enc : TypeId × Value → H} {W : World} {base : Nat} (room : Int) {v1 v4 : Value} {d1 d4 : DataW H} {p1 p4 : List MemPlace}
    (h1 : Value.okWide Try.prog W .any base 22 v1 ∧ DataW.Trod enc Try.prog W 0 (fun _ => true) true 22 v1 d1 p1)
    (h4 : Value.okWide Try.prog W .any base 26 v4 ∧ DataW.Trod enc Try.prog W 0 (fun _ => true) true 26 v4 d4 p4)
    (hp1 : ∀ x ∈ p1, x.block < W.heap.size) (hp4 : ∀ x ∈ p4, x.block < W.heap.size) :
    Calls Try.prog 4 #[.int .i64 room, v1, v4] W fun e w' => e = .returned (.bool true) ∧ Below W.heap.size W w' := by
  obtain ⟨A1, l, c1, rfl, hl, hll⟩ := acts_open h1.1 h1.2 hp1
  obtain ⟨c, KA, kc, PA, pc, rfl, hc⟩ := crash_open h4.1 h4.2 hp4
  exact Tails_any W room A1 l c1 c KA PA kc pc hl hc hll

set_option maxRecDepth 100000 in
theorem tail_lifted (os : Os) (started : os.Started) (H : Type) (enc : TypeId × Value → H) :
    ReturnsInHanded {} Try.checked os 4 .any (Rows.diskTailSpec.pre6 enc Try.prog Try.f4 Rows.diskTailRow.domain false) (Rows.diskTailSpec.post enc Try.prog Try.f4 false true false false) := by
  refine returnsInHanded_of_change (C := Try.checked) Tryown started (by kernel_rfl) Try.func4
    (ChangeSpec.witness6 (enc := enc) (C := Try.checked) false ⟨#[], #[.int .i64 0, .slice none 0 0, .agg #[.int .i64 0, .slice none 0 0, .slice none 0 0]], []⟩ 8 (by kernel_rfl) (by kernel_rfl) (by kernel_rfl) (by kernel_rfl)) ?_
  intro W base args ds gs before hval0 hW _ _
  have hval : ∀ (j : Nat) t v, Try.f4.params[j]? = some t → args[j]? = some v → Value.okWide Try.prog W .any base t v := hval0
  have hW0 := hW
  have hlt := hW.lt
  obtain ⟨p, q, hA0, hV, rfl, _, _⟩ := hW
  have hA : DataW.TrodAll enc Try.prog W 0 (fun _ => true) true Try.f4.params.toList args.toList ds p := hA0
  rw [Try.params4] at hA hval
  obtain ⟨v0, vs0, d0, ds0, p0, q0, hargs, rfl, rfl, h0, r0⟩ := trodAll_cons hA
  obtain ⟨v1, vs1, d1, ds1, p1, q1, rfl, rfl, rfl, h1, r1⟩ := trodAll_cons r0
  obtain ⟨v2, vs2, d2, ds2, p2, q2, rfl, rfl, rfl, h2, r2⟩ := trodAll_cons r1
  obtain ⟨rfl, rfl, rfl⟩ := trodAll_nil r2
  obtain rfl : args = #[v0, v1, v2] := by cases args; simp_all
  obtain ⟨rfl, rfl⟩ := trodVars_none hV
  obtain ⟨room, rfl, rfl, rfl, w_room⟩ := open_int Try.underlying3 (hval 0 3 v0 rfl rfl) h0
  have b_room := bounds_i64 w_room
  have aa := And.intro (hval 1 22 v1 rfl rfl) h1
  have cc := And.intro (hval 2 26 v2 rfl rfl) h2
  refine (tail_call room aa cc (fun x hx => by simpa using hlt x (by simp [hx])) (fun x hx => by simpa using hlt x (by simp [hx]))).mono fun e W' ⟨he, hb⟩ => ⟨_, he, ?_⟩
  exact law_post Trylaid Try.underlying4 hW0 rfl rfl (by kernel_rfl) rfl hb

theorem tail_holds : Rows.DiskTailSaid :=
  OpenClaim.holds_of_wide 4 Try.f4 rfl rfl rfl rfl rfl rfl rfl ⟨rfl, rfl, rfl, rfl, rfl⟩ rfl rfl rfl rfl rfl (by kernel_rfl) Try.func4 (by kernel_rfl)
    (of_decide_eq_true (by kernel_rfl)) (by unfold Func.isWrapper; first | (rw [if_pos (by decide +kernel)]; kernel_rfl) | (rw [if_neg (by decide +kernel)]; exact ⟨rfl, rfl⟩))
    (fun os started H enc _ => tail_lifted os started H enc)

#print axioms tail_holds
end Go.Proofs.Ytkhicfoikkllmaa
