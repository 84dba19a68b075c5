/- Contracts: alike, at equal files; Same's function of changes. -/
import Derived.Test.YtkhicfoikkllmaaSmS
namespace Go.Proofs.Ytkhicfoikkllmaa
open Go.RowKit
set_option linter.unusedVariables false
set_option linter.unusedSimpArgs false
set_option maxRecDepth 100000 in
set_option maxHeartbeats 2000000 in
theorem alike_nil (w : World) : Calls Try.prog 43 #[.pointer none, .pointer none] w fun e w' => e = .returned (.bool true) ∧ Below w.heap.size w w' := by
  go_enter Try.func43, Try.ntmps43
  go_wp2_with fail
  go_ret
  exact ⟨rfl, Below.refl _ _⟩
set_option maxRecDepth 100000 in
set_option maxHeartbeats 2000000 in
theorem alike_some {w : World} {b1 b2 : Nat} {v1 v2 : Value} {f : Fil} (hb1 : Blk w b1 65 #[v1, .int .i64 f.k]) (hb2 : Blk w b2 65 #[v2, .int .i64 f.k]) (h1 : OwnB w 0 v1 f.d) (h2 : OwnB w 0 v2 f.d) (hl : f.d.length ≤ 1048576) :
    Calls Try.prog 43 #[.pointer (some ⟨b1, 0, none⟩), .pointer (some ⟨b2, 0, none⟩)] w fun e w' => e = .returned (.bool true) ∧ Below w.heap.size w w' := by
  have x0 := hb1.cell 0
  have x1 := hb1.cell 1
  have y0 := hb2.cell 0
  have y1 := hb2.cell 1
  have l1 := hb1.lt
  have l2 := hb2.lt
  have hq : ∀ W, Below w.heap.size w W → Calls Try.prog 52 #[v1, v2] W fun e w' => e = .returned (.bool true) ∧ Below W.heap.size W w' := fun W hW =>
    equalB_any (own_kept h1 (KeptBut.of_below hW (S := fun _ => False)) (fun _ _ h => h)) (own_kept h2 (KeptBut.of_below hW (S := fun _ => False)) (fun _ _ h => h)) hl
  obtain ⟨A1, c1, rfl⟩ := h1.form
  obtain ⟨A2, c2, rfl⟩ := h2.form
  generalize f.d.length = n at *
  replace h1 := Lib.hid h1
  replace h2 := Lib.hid h2
  replace hq := Lib.hid hq
  replace hb1 := Lib.hid hb1
  replace hb2 := Lib.hid hb2
  go_enter Try.func43, Try.ntmps43
  go_wp2_with fail
  have hxc := @Ext.cell
  have hxf := @Ext.frozen
  refine wp_hide (fun Q0 hQ0 => ?_)
  refine wp_region_line (fun w' => ∃ x : Ext _, w' = x.w) [some false, some false, some false, some false, some false, some false, some false, some false, some false, some false, some false, some false, some false, some false, some false, some false, some false, some false, some false, some false, some false] 0 (by kernel_rfl) (by kernel_rfl) ⟨⟨_, (Below.refl _ _).drew⟩, rfl⟩ ?_
  simp only [earlyL, tailL]
  repeat (first | ((with_reducible refine wpMix_p ?_); go_big_quiet_step (fail); refine wpQuiet_nil ?_) | ((with_reducible refine wpMix_e ?_); go_big_quiet_step ((first | (go_at_call 52; exact Calls.ext (hq.out _ (Ext.below _))))); refine wpQuiet_nil ?_))
  refine wpMix_nil ?_
  clear hxc hxf
  intro wx hwx
  obtain ⟨x, hx⟩ := hwx
  have hb := x.below
  rw [← hx] at hb
  clear hx x
  refine wpTail_nil ?_
  refine hQ0 _ _ ?_
  clear hQ0 Q0
  go_wp2_with fail
  go_ret
  exact ⟨rfl, hb⟩
section
variable {w : World} {F1 F2 : Nat → Prop} {d1 d2 : Nat} {L1 L2 : Lay} {s1 s2 : Dsk}
theorem alike_opt (hD1 : DskAt w F1 d1 L1 s1) (hD2 : DskAt w F2 d2 L2 s2) (o : Option Nat) (ho : ∀ i, o = some i → ¬ L1.dead i ∧ ¬ L2.dead i ∧ ∃ f, s1.files[i]? = some f ∧ s2.files[i]? = some f ∧ f.d.length ≤ 1048576) :
    Calls Try.prog 43 #[ptrV (o.map L1.blk), ptrV (o.map L2.blk)] w fun e w' => e = .returned (.bool true) ∧ Below w.heap.size w w' := by
  cases o with
  | none => exact alike_nil w
  | some i =>
    obtain ⟨e1, e2, f, f1, f2, hl⟩ := ho i rfl
    obtain ⟨a1, o1⟩ := hD1.file i f f1 e1
    obtain ⟨a2, o2⟩ := hD2.file i f f2 e2
    exact alike_some a1 a2 o1 o2 hl
set_option maxRecDepth 100000 in
set_option maxHeartbeats 2000000 in
theorem Same1_any (hD1 : DskAt w F1 d1 L1 s1) (hD2 : DskAt w F2 d2 L2 s2) (c : Chg) (ho : ∀ i, c.f = some i → ¬ L1.dead i ∧ ¬ L2.dead i ∧ ∃ f, s1.files[i]? = some f ∧ s2.files[i]? = some f ∧ f.d.length ≤ 1048576) :
    Calls Try.prog 45 #[chgVal L1.blk c, chgVal L2.blk c] w fun e w' => e = .returned (.bool true) ∧ Below w.heap.size w w' := by
  obtain ⟨p1, hp1⟩ := ptrV_form (c.f.map L1.blk)
  obtain ⟨p2, hp2⟩ := ptrV_form (c.f.map L2.blk)
  have hq : ∀ W, Below w.heap.size w W → Calls Try.prog 43 #[ptrV (c.f.map L1.blk), ptrV (c.f.map L2.blk)] W fun e w' => e = .returned (.bool true) ∧ Below W.heap.size W w' := fun W hW => alike_opt (hD1.below hW) (hD2.below hW) c.f ho
  have hB : Below w.heap.size w ((w.alloc (.cells #[.string (bs c.fr), .string (bs c.to), .pointer p1] 68)).alloc (.cells #[.string (bs c.fr), .string (bs c.to), .pointer p2] 68)) := ((Below.refl _ _).alloc (Nat.le_refl _) _).alloc (by simp) _
  unfold chgVal
  rw [hp1, hp2] at *
  have hq2 := hq _ hB
  clear hq
  replace hq2 := Lib.hid hq2
  replace ho := Lib.hid ho
  replace hp1 := Lib.hid hp1
  replace hp2 := Lib.hid hp2
  replace hD1 := Lib.hid hD1
  replace hD2 := Lib.hid hD2
  replace hB := Lib.hid hB
  go_enter Try.func45, Try.ntmps45
  go_wp2_with (refine hq2.out.mono ?_; rintro e w' ⟨rfl, hb⟩)
  go_ret
  exact ⟨rfl, hB.out.trans (hb.mono hB.out.size)⟩
end
end Go.Proofs.Ytkhicfoikkllmaa
