/- WalParts: the tied card: for any room, rounds and number the law returns true, and its arguments read as before. No condition. -/
import Derived.Test.YtdbpfemkjfogoaaGreatDoorM23
import Derived.Test.YtdbpfemkjfogoaaGreatDoorM22
import Derived.Test.YtdbpfemkjfogoaaGreatDoorCards
import Derived.Test.YtdbpfemkjfogoaaGreatDoorTie
import Derived.ProofKit
import Derived.OpenShut
import Derived.LaidMore
import Derived.Lay
import Derived.SevenTiedAt
import Derived.Stop.Joined
namespace Go.Proofs.YtdbpfemkjfogoaaGreatDoor
open Go.ChangeShapes Go.WideShapes Go.ChangeAt Go.RowKit Go.Joins Go.Deep
open Go.ChangeMaps (open_string)
set_option linter.unusedVariables false
set_option linter.unusedSimpArgs false
set_option maxRecDepth 100000 in
theorem wparts_call {H : Type} {enc : TypeId × Value → H} {W : World} {base : Nat} (room fr : Int) (hfr : 0 ≤ fr) {v : Value} {d : DataW H} {p : List MemPlace} (hG : Glo W)
    (hv : Value.okWide Tryz.prog W .any base 22 v) (h : DataW.Trod enc Tryz.prog W 0 (fun _ => true) true 22 v d p) (hp : ∀ x ∈ p, x.block < W.heap.size) :
    Calls Tryz.prog 7 #[.int .i64 room, v, .int .u64 fr] W fun e w' => e = .returned (.bool true) ∧ Below W.heap.size W w' := by
  obtain ⟨A, l, cap, rfl, hr⟩ := rounds_open hv h hp
  obtain ⟨k, rfl⟩ := Int.eq_ofNat_of_zero_le hfr
  exact parts_any W hG room A l cap hr k

set_option maxRecDepth 100000 in
theorem wparts_lifted (os : Os) (started : os.Started) (H : Type) (enc : TypeId × Value → H) :
    ReturnsInHanded {} Tryz.checked os 7 .any (fun w args => (Rows.walPartsSpec.pre enc Tryz.prog Tryz.f7 Rows.walPartsRow.domain false w args ∧ laidMetH Tryz.prog Rows.walPartsRow.laid w) ∧ sizedMet enc Tryz.prog Tryz.f7 (OpenSpec.ofChange Rows.walPartsSpec) false w args)
      (Rows.walPartsSpec.post enc Tryz.prog Tryz.f7 false true false false) := by
  refine returnsInHanded_of_change_and (C := Tryz.checked) (X := fun w _ => laidMetH Tryz.prog Rows.walPartsRow.laid w) (fun _ _ _ hh h => h.of_heap hh) Tryzown started (by kernel_rfl) Tryz.func7
    (ChangeSpec.witness_shaped (enc := enc) (C := Tryz.checked) (os := os) (X := fun w _ => laidMetH Tryz.prog Rows.walPartsRow.laid w) false (World.laidAll Tryz.prog os Rows.walPartsRow.laid) #[.int .i64 0, .slice none 0 0, .int .u64 0] 8 (World.laidAll_os _ _ _)
      (World.shaped_of_ZipB (by kernel_rfl) (by kernel_rfl)) (by kernel_rfl) (by kernel_rfl) (by kernel_rfl)
      (by rw [MakeChecks.laidMetH_plain _ _ _ (by kernel_rfl)]; exact laidMet_laidAll _ (by kernel_rfl) (by kernel_rfl))) ?_
  intro W base args ds gs before hval0 hW hc hwt hL _
  have hval : ∀ (j : Nat) t v, Tryz.f7.params[j]? = some t → args[j]? = some v → Value.okWide Tryz.prog W .any base t v := hval0
  have hW0 := hW
  have hlt := hW.lt
  obtain ⟨p, q, hA0, hV, rfl, _, _⟩ := hW
  have hA : DataW.TrodAll enc Tryz.prog W 0 (fun _ => true) true Tryz.f7.params.toList args.toList ds p := hA0
  rw [Tryz.params7] at hA hval
  obtain ⟨v0, vs0, d0, ds0, p0, q0, hargs, rfl, rfl, h0, r0⟩ := trodAll_cons hA
  obtain ⟨v1, vs1, d1, ds1, p1, q1, rfl, rfl, rfl, h1, r1⟩ := trodAll_cons r0
  obtain ⟨v2, vs2, d2, ds2, p2, q2, rfl, rfl, rfl, h2, r2⟩ := trodAll_cons r1
  obtain ⟨rfl, rfl, rfl⟩ := trodAll_nil r2
  obtain rfl : args = #[v0, v1, v2] := by cases args; simp_all
  obtain ⟨rfl, rfl⟩ := trodVars_none hV
  obtain ⟨room, rfl, rfl, rfl, w_room⟩ := open_int Tryz.underlying3 (hval 0 3 v0 rfl rfl) h0
  have b_room := bounds_i64 w_room
  have rs := And.intro (hval 1 22 v1 rfl rfl) h1
  obtain ⟨fr, rfl, rfl, rfl, w_fr⟩ := open_int Tryz.underlying42 (hval 2 42 v2 rfl rfl) h2
  have b_fr := bounds_u64 w_fr
  refine (wparts_call room fr b_fr.1 (glo_of hL) rs.1 rs.2 (fun x hx => by simpa using hlt x (by simpa using hx))).mono fun e W' ⟨he, hb⟩ => ⟨_, he, ?_⟩
  exact law_post Tryzlaid Tryz.underlying4 hW0 rfl rfl (by kernel_rfl) rfl hb

theorem wparts_said : Rows.WalPartsSaid :=
  OpenClaim.holds_of_wide 7 Tryz.f7 rfl rfl rfl rfl rfl rfl rfl ⟨rfl, rfl, rfl, rfl, rfl⟩ rfl rfl rfl rfl rfl (by kernel_rfl) Tryz.func7 (by kernel_rfl)
    (of_decide_eq_true (by kernel_rfl)) (by unfold Func.isWrapper; first | (rw [if_pos (by decide +kernel)]; kernel_rfl) | (rw [if_neg (by decide +kernel)]; exact ⟨rfl, rfl⟩))
    (fun os started H enc _ => wparts_lifted os started H enc)

theorem wparts_holds : Rows.WalPartsCardSaid :=
  Claim7.holds_tied_plain_at .later [] _ _ _ _ wparts_said (fun _ h => by cases h) (by kernel_rfl) (fun _ h => by cases h) walParts_row_tie rfl ⟨rfl, rfl⟩ (by kernel_rfl) rfl
    (fun f fn hf hfn => by
      obtain rfl : f = 7 := Option.some.inj ((show Tryz.prog.funcNamed "copyhold/copyholdlaw07.WalParts" = some 7 by kernel_rfl).symm.trans hf) |>.symm
      obtain rfl : fn = Tryz.f7 := (Option.some.inj (Tryz.func7.symm.trans hfn)).symm
      refine ⟨by kernel_rfl, fun j t ht => ?_⟩
      have hall : (Tryz.f7.params.toList.all fun u => !Tryz.prog.wantsStandIn u) = true := by kernel_rfl
      have hm : t ∈ Tryz.f7.params.toList := by simpa using Array.mem_of_getElem? ht
      have h2 : Tryz.prog.wantsStandIn t = false := by simpa using List.all_eq_true.1 hall t hm
      exact h2)
    (by kernel_rfl)

#print axioms wparts_holds
end Go.Proofs.YtdbpfemkjfogoaaGreatDoor
