/- Contracts: slices.Equal of rows of bytes, alike: at equal ones. -/
import Derived.Test.YtkhicfoikkllmaaTwin
namespace Go.Proofs.Ytkhicfoikkllmaa
open Go.RowKit
set_option linter.unusedVariables false
set_option linter.unusedSimpArgs false
theorem OwnB.atSome {w : World} {A : Option Addr} {n cap : Nat} {l : List UInt8} (h : OwnB w 0 (.slice A n cap) l) {i : Nat} (hi : i < l.length) : ∃ g, A = some ⟨g, 0, none⟩ ∧ g < w.heap.size ∧ w.cell? ⟨g, i, none⟩ = some (.int .u8 (l[i].toNat : Nat)) := by
  rcases h.2 with ⟨e, h0⟩ | ⟨g, cap', cur, e, _⟩
  · omega
  · injection e with e1 e2 e3
    subst e1
    have := (h.lt g rfl).2
    exact ⟨g, rfl, this, (h.cellAt hi).1⟩
set_option maxRecDepth 100000 in
set_option maxHeartbeats 2000000 in
theorem equalB_any {w : World} {v1 v2 : Value} {l : List UInt8} (h1 : OwnB w 0 v1 l) (h2 : OwnB w 0 v2 l) (hl : l.length ≤ 1048576) :
    Calls Try.prog 52 #[v1, v2] w fun e w' => e = .returned (.bool true) ∧ Below w.heap.size w w' := by
  obtain ⟨A1, c1, rfl⟩ := h1.form
  obtain ⟨A2, c2, rfl⟩ := h2.form
  replace h1 := Lib.hid h1
  replace h2 := Lib.hid h2
  go_enter Try.func52, Try.ntmps52
  go_wp2_with fail
  go_loopw [13] (fun v wr => ∃ i : Nat, i ≤ l.length ∧ v = .int .i64 i ∧ Below w.heap.size w wr) (fun v _ => l.length - (intOf v).toNat)
  case atStart => exact ⟨0, Nat.zero_le _, rfl, Below.refl _ _⟩
  case round =>
    obtain ⟨i, hi, rfl, hbr⟩ := hrel
    by_cases hlt : i < l.length
    · have hlt' : (i : Int) < l.length := by omega
      obtain ⟨g1, rfl, hg1, x1⟩ := h1.out.atSome hlt
      obtain ⟨g2, rfl, hg2, x2⟩ := h2.out.atSome hlt
      generalize l[i].toNat = c at *
      have q1 := (hbr.cell (p := ⟨g1, i, none⟩) hg1).trans x1
      have q2 := (hbr.cell (p := ⟨g2, i, none⟩) hg2).trans x2
      have hz := hbr.size
      have hg1' : g1 < wr.heap.size := by omega
      have hg2' : g2 < wr.heap.size := by omega
      replace hbr := Lib.hid hbr
      clear x1 x2
      go_wp2_with fail
      have hxc := @Ext.cell
      have hxf := @Ext.frozen
      refine wp_hide (fun Q0 hQ0 => ?_)
      refine wp_region_line (fun w' => ∃ x : Ext _, w' = x.w) [some false, some false, some false, some false, some false, some false, some false, some false, some false] 0 (by kernel_rfl) (by kernel_rfl) ⟨⟨_, (Below.refl _ _).drew⟩, rfl⟩ ?_
      simp only [earlyL, tailL]
      repeat (first | ((with_reducible refine wpMix_p ?_); go_big_quiet_step (fail); refine wpQuiet_nil ?_) | ((with_reducible refine wpMix_e ?_); go_big_quiet_step ((first | fail)); refine wpQuiet_nil ?_))
      refine wpMix_nil ?_
      clear hxc hxf
      intro wx hwx
      obtain ⟨x, hx⟩ := hwx
      have hb := x.below
      rw [← hx] at hb
      clear hx x
      have hbx := hbr.out.trans (hb.mono hz)
      refine wpTail_nil ?_
      refine hQ0 _ _ ?_
      clear hQ0 Q0
      go_wp2_with fail
      go_roundw
      case rel => exact ⟨i + 1, by omega, by rfl, hbx⟩
      case measure => first | omega | (simp only [intOf]; omega)
    · obtain rfl : i = l.length := by omega
      have hlt' : ¬ ((l.length : Nat) : Int) < l.length := by omega
      replace hbr := Lib.hid hbr
      go_wp2_with fail
      go_ret
      exact ⟨rfl, hbr.out⟩
end Go.Proofs.Ytkhicfoikkllmaa
