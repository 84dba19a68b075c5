/- WalFull: the tied card: for any room, rounds and batch the law returns true, and its arguments read as before. No condition. -/
import Derived.Test.YtdbpfemkjfogoaaGreatDoorM22
import Derived.Test.YtdbpfemkjfogoaaGreatDoorCards
import Derived.Test.YtdbpfemkjfogoaaGreatDoorTie
import Derived.ProofKit
import Derived.OpenShut
import Derived.LaidMore
import Derived.Lay
import Derived.SevenTiedAt
import Derived.Stop.Joined
namespace Go.Proofs.YtdbpfemkjfogoaaGreatDoor
open Go.ChangeShapes Go.WideShapes Go.ChangeAt Go.RowKit Go.Joins Go.Deep
open Go.ChangeMaps (open_string)
set_option linter.unusedVariables false
set_option linter.unusedSimpArgs false
set_option maxRecDepth 100000 in
theorem batch_open {H : Type} {enc : TypeId × Value → H} {W : World} {base : Nat} {v : Value} {d : DataW H} {p : List MemPlace}
    (hv : Value.okWide Tryz.prog W .any base 53 v) (h : DataW.Trod enc Tryz.prog W 0 (fun _ => true) true 53 v d p) (hp : ∀ x ∈ p, x.block < W.heap.size) :
    ∃ (x : MB) (A : Option Addr) (cap : Nat), v = .agg #[.int .u64 (x.b.seq : Nat), .slice A x.b.ops.length cap] ∧ x.v = .slice A x.b.ops.length cap ∧ OpsR W W.heap.size A x.b.ops ∧ x.b.seq < 18446744073709551616 := by
  obtain ⟨cs, rfl, hsz⟩ := okWide_struct Tryz.underlying53 hv
  obtain ⟨fuel, hf⟩ := h
  obtain ⟨x, e, hx⟩ := bat_open (y := (d, p)) (by simpa [Value.cells] using hf) hp
  obtain ⟨A, cap, ev, hr⟩ := hx.at_
  refine ⟨x, A, cap, ?_, ev, hr, hx.seq⟩
  have : cs = #[.int .u64 (x.b.seq : Nat), .slice A x.b.ops.length cap] := by
    rw [← Array.toList_inj]
    have := e
    unfold mbC at this
    rw [ev] at this
    simpa [Value.cells] using this
  rw [this]
set_option maxRecDepth 100000 in
theorem wfull_call {H : Type} {enc : TypeId × Value → H} {W : World} {base : Nat} (room : Int) {v v2 : Value} {d d2 : DataW H} {p p2 : List MemPlace} (hG : Glo W)
    (h1 : Value.okWide Tryz.prog W .any base 22 v ∧ DataW.Trod enc Tryz.prog W 0 (fun _ => true) true 22 v d p)
    (h2 : Value.okWide Tryz.prog W .any base 53 v2 ∧ DataW.Trod enc Tryz.prog W 0 (fun _ => true) true 53 v2 d2 p2)
    (hp : ∀ x ∈ p, x.block < W.heap.size) (hp2 : ∀ x ∈ p2, x.block < W.heap.size) :
    Calls Tryz.prog 6 #[.int .i64 room, v, v2] W fun e w' => e = .returned (.bool true) ∧ Below W.heap.size W w' := by
  obtain ⟨A, l, cap, rfl, hr⟩ := rounds_open h1.1 h1.2 hp
  obtain ⟨x, B, bc, rfl, hxv, hxr, hxs⟩ := batch_open h2.1 h2.2 hp2
  exact full_any W hG room A l cap hr x B bc hxv hxr hxs

set_option maxRecDepth 100000 in
theorem wfull_lifted (os : Os) (started : os.Started) (H : Type) (enc : TypeId × Value → H) :
    ReturnsInHanded {} Tryz.checked os 6 .any (fun w args => (Rows.walFullSpec.pre enc Tryz.prog Tryz.f6 Rows.walFullRow.domain false w args ∧ laidMetH Tryz.prog Rows.walFullRow.laid w) ∧ sizedMet enc Tryz.prog Tryz.f6 (OpenSpec.ofChange Rows.walFullSpec) false w args)
      (Rows.walFullSpec.post enc Tryz.prog Tryz.f6 false true false false) := by
  refine returnsInHanded_of_change_and (C := Tryz.checked) (X := fun w _ => laidMetH Tryz.prog Rows.walFullRow.laid w) (fun _ _ _ hh h => h.of_heap hh) Tryzown started (by kernel_rfl) Tryz.func6
    (ChangeSpec.witness_shaped (enc := enc) (C := Tryz.checked) (os := os) (X := fun w _ => laidMetH Tryz.prog Rows.walFullRow.laid w) false (World.laidAll Tryz.prog os Rows.walFullRow.laid) #[.int .i64 0, .slice none 0 0, .agg #[.int .u64 0, .slice none 0 0]] 8 (World.laidAll_os _ _ _)
      (World.shaped_of_ZipB (by kernel_rfl) (by kernel_rfl)) (by kernel_rfl) (by kernel_rfl) (by kernel_rfl)
      (by rw [MakeChecks.laidMetH_plain _ _ _ (by kernel_rfl)]; exact laidMet_laidAll _ (by kernel_rfl) (by kernel_rfl))) ?_
  intro W base args ds gs before hval0 hW hc hwt hL _
  have hval : ∀ (j : Nat) t v, Tryz.f6.params[j]? = some t → args[j]? = some v → Value.okWide Tryz.prog W .any base t v := hval0
  have hW0 := hW
  have hlt := hW.lt
  obtain ⟨p, q, hA0, hV, rfl, _, _⟩ := hW
  have hA : DataW.TrodAll enc Tryz.prog W 0 (fun _ => true) true Tryz.f6.params.toList args.toList ds p := hA0
  rw [Tryz.params6] at hA hval
  obtain ⟨v0, vs0, d0, ds0, p0, q0, hargs, rfl, rfl, h0, r0⟩ := trodAll_cons hA
  obtain ⟨v1, vs1, d1, ds1, p1, q1, rfl, rfl, rfl, h1, r1⟩ := trodAll_cons r0
  obtain ⟨v2, vs2, d2, ds2, p2, q2, rfl, rfl, rfl, h2, r2⟩ := trodAll_cons r1
  obtain ⟨rfl, rfl, rfl⟩ := trodAll_nil r2
  obtain rfl : args = #[v0, v1, v2] := by cases args; simp_all
  obtain ⟨rfl, rfl⟩ := trodVars_none hV
  obtain ⟨room, rfl, rfl, rfl, w_room⟩ := open_int Tryz.underlying3 (hval 0 3 v0 rfl rfl) h0
  have b_room := bounds_i64 w_room
  have rs := And.intro (hval 1 22 v1 rfl rfl) h1
  have bb := And.intro (hval 2 53 v2 rfl rfl) h2
  refine (wfull_call room (glo_of hL) rs bb (fun x hx => by simpa using hlt x (by simp [hx])) (fun x hx => by simpa using hlt x (by simp [hx]))).mono fun e W' ⟨he, hb⟩ => ⟨_, he, ?_⟩
  exact law_post Tryzlaid Tryz.underlying4 hW0 rfl rfl (by kernel_rfl) rfl hb

theorem wfull_said : Rows.WalFullSaid :=
  OpenClaim.holds_of_wide 6 Tryz.f6 rfl rfl rfl rfl rfl rfl rfl ⟨rfl, rfl, rfl, rfl, rfl⟩ rfl rfl rfl rfl rfl (by kernel_rfl) Tryz.func6 (by kernel_rfl)
    (of_decide_eq_true (by kernel_rfl)) (by unfold Func.isWrapper; first | (rw [if_pos (by decide +kernel)]; kernel_rfl) | (rw [if_neg (by decide +kernel)]; exact ⟨rfl, rfl⟩))
    (fun os started H enc _ => wfull_lifted os started H enc)

theorem wfull_holds : Rows.WalFullCardSaid :=
  Claim7.holds_tied_plain_at .later [] _ _ _ _ wfull_said (fun _ h => by cases h) (by kernel_rfl) (fun _ h => by cases h) walFull_row_tie rfl ⟨rfl, rfl⟩ (by kernel_rfl) rfl
    (fun f fn hf hfn => by
      obtain rfl : f = 6 := Option.some.inj ((show Tryz.prog.funcNamed "copyhold/copyholdlaw07.WalFull" = some 6 by kernel_rfl).symm.trans hf) |>.symm
      obtain rfl : fn = Tryz.f6 := (Option.some.inj (Tryz.func6.symm.trans hfn)).symm
      refine ⟨by kernel_rfl, fun j t ht => ?_⟩
      have hall : (Tryz.f6.params.toList.all fun u => !Tryz.prog.wantsStandIn u) = true := by kernel_rfl
      have hm : t ∈ Tryz.f6.params.toList := by simpa using Array.mem_of_getElem? ht
      have h2 : Tryz.prog.wantsStandIn t = false := by simpa using List.all_eq_true.1 hall t hm
      exact h2)
    (by kernel_rfl)

#print axioms wfull_holds
end Go.Proofs.YtdbpfemkjfogoaaGreatDoor
