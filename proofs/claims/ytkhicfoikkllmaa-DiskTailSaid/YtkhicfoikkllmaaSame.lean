/- Contracts: Same, of disks that are alike. -/
import Derived.Test.YtkhicfoikkllmaaSmE
namespace Go.Proofs.Ytkhicfoikkllmaa
open Go.RowKit
set_option linter.unusedVariables false
set_option linter.unusedSimpArgs false
section
variable {w : World} {F1 F2 : Nat → Prop} {d1 d2 : Nat} {L1 L2 : Lay} {s1 s2 : Dsk}
set_option maxRecDepth 100000 in
set_option maxHeartbeats 4000000 in
theorem Same_any (hD1 : DskAt w F1 d1 L1 s1) (hD2 : DskAt w F2 d2 L2 s2) (hs : s1.Like s2 L1.dead L2.dead) (ok : s2.Ok) (hm : s2.load ≤ 536870912) :
    Calls Try.prog 22 #[.pointer (some ⟨d1, 0, none⟩), .pointer (some ⟨d2, 0, none⟩)] w fun e w' => e = .returned (.bool true) ∧ Below w.heap.size w w' := by
  have hn1 := Lib.hid (none_any hD1)
  have hn2 := Lib.hid (none_any hD2)
  unfold Dsk.load at hm
  have hc1 : ∀ W, Below w.heap.size w W → Calls Try.prog 42 #[.map (some L1.gL), .map (some L2.gL), .func (.func 43) #[] #[]] W fun e w' => e = .returned (.bool true) ∧ Below W.heap.size W w' := fun W hW => mapsEq_any (hD1.below hW) (hD2.below hW) hs ok (by omega)
  have hc2 : ∀ W, Below w.heap.size w W → Calls Try.prog 44 #[L1.vC, L2.vC, .func (.func 45) #[] #[]] W fun e w' => e = .returned (.bool true) ∧ Below W.heap.size W w' := fun W hW => slicesEq_any (hD1.below hW) (hD2.below hW) hs ok (by omega)
  have a0 := hD1.box.cell 0
  have a2 := hD1.box.cell 2
  have a3 := hD1.box.cell 3
  have a4 := hD1.box.cell 4
  have a5 := hD1.box.cell 5
  have b0 := hD2.box.cell 0
  have b2 := hD2.box.cell 2
  have b3 := hD2.box.cell 3
  have b4 := hD2.box.cell 4
  have b5 := hD2.box.cell 5
  obtain ⟨A1, k1, hv1, _⟩ := chg_form hD1
  obtain ⟨A2, k2, hv2, _⟩ := chg_form hD2
  rw [hs.chg] at hv1
  rw [hv1] at hc2 a3
  rw [hv2] at hc2 b3
  rw [hs.room] at a0
  rw [hs.off] at a4
  rw [hs.fuse] at a5
  have l1 := hD1.lt
  have l2 := hD2.lt
  generalize s2.chg.length = n at *
  replace hv1 := Lib.hid hv1
  replace hv2 := Lib.hid hv2
  replace hs := Lib.hid hs
  replace hD1 := Lib.hid hD1
  replace hD2 := Lib.hid hD2
  replace hc1 := Lib.hid hc1
  replace hc2 := Lib.hid hc2
  go_enter Try.func22, Try.ntmps22
  go_wp2_with fail
  refine hn1.out.mono ?_
  rintro e w' ⟨rfl, rfl⟩
  go_wp2_with fail
  refine hn2.out.mono ?_
  rintro e w' ⟨rfl, rfl⟩
  go_wp2_with fail
  have hxc := @Ext.cell
  have hxf := @Ext.frozen
  refine wp_hide (fun Q0 hQ0 => ?_)
  refine wp_region_line (fun w' => ∃ x : Ext _, w' = x.w) [some false, some false, some false, some false, some false, some false, some false, some false, some false, some false, some false, some false, some false, some false, some false, some false, some false, some false, some false, some false, some false, some false, some false, some false, some false, some false, some false, some false, some false, some false, some false, some false, some false, some false, some false, some false, some false, some false, some false, some false, some false, some false, some false, some false, some false, some false, some false, some false, some false, some false, some false, some false, some false, some false] 0 (by kernel_rfl) (by kernel_rfl) ⟨⟨_, (Below.refl _ _).drew⟩, rfl⟩ ?_
  simp only [earlyL, tailL]
  repeat (first | ((with_reducible refine wpMix_p ?_); go_big_quiet_step (fail); refine wpQuiet_nil ?_) | ((with_reducible refine wpMix_e ?_); go_big_quiet_step ((first | (go_at_call 42; exact Calls.ext (hc1.out _ (Ext.below _))) | (go_at_call 44; exact Calls.ext (hc2.out _ (Ext.below _))))); refine wpQuiet_nil ?_))
  refine wpMix_nil ?_
  clear hxc hxf
  intro wx hwx
  obtain ⟨x, hx⟩ := hwx
  have hb := x.below
  rw [← hx] at hb
  clear hx x
  refine wpTail_nil ?_
  refine hQ0 _ _ ?_
  clear hQ0 Q0
  go_wp2_with fail
  go_ret
  exact ⟨rfl, hb⟩
end
end Go.Proofs.Ytkhicfoikkllmaa
