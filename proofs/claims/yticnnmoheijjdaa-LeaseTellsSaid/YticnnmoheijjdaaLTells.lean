/- LeaseTells returns true for every lease, time, texts and number. -/
import Derived.Test.YticnnmoheijjdaaL4
import Derived.Test.YticnnmoheijjdaaK
import Derived.Test.YticnnmoheijjdaaQ
import Derived.Deep.DeepCutAuto
import Derived.LoopTactic
namespace Go.Proofs.Yticnnmoheijjdaa
open Go.RowKit Go.ChangeShapes Go.WideShapes Go.ChangeAt Go.Joins
set_option linter.unusedVariables false

set_option maxRecDepth 100000 in
set_option maxHeartbeats 4000000 in
theorem tells_walk (o : ByteArray) (u : Int) (had : Bool) (now : Int) (owner dst : ByteArray) (d : Int) (w : World) (n0 : 0 ≤ now) (n1 : now ≤ 18446744073709551615) (d0 : 0 ≤ d) (d1 : d ≤ 18446744073709551615) (_so : owner.size ≤ maxLen) (_st : dst.size ≤ maxLen) :
    Calls Try.prog 5 #[.agg #[.string o, .int .u64 u], .bool had, .int .u64 now, .string owner, .string dst, .int .u64 d] w fun e w' => e = .returned (.bool true) ∧ Below w.heap.size w w' := by
  unfold maxLen at _so _st
  go_enter Try.func5, Try.ntmps5
  go_upto_if 23 with fail
  go_cut [3] (fun s3 wx => ∃ p : ByteArray, s3 = .string p ∧ w.alloc (Obj.cells #[Value.string o, Value.int IntKind.u64 u] 24) = wx)
  case first =>
    go_wp2
    all_goals go_meet
    all_goals exact ⟨_, rfl, rfl⟩
  obtain ⟨p, rfl, rfl⟩ := hcut
  go_upto_if 28 with fail
  go_cut [4] (fun s4 wx => ∃ q : ByteArray, s4 = .string q ∧ w.alloc (Obj.cells #[Value.string o, Value.int IntKind.u64 u] 24) = wx)
  case first =>
    go_wp2
    all_goals go_meet
    all_goals exact ⟨_, rfl, rfl⟩
  obtain ⟨q, rfl, rfl⟩ := hcut
  go_wp2_with fail
  go_loopw [14] (fun k wr => ∃ n : Nat, 1 ≤ n ∧ n ≤ 5 ∧ k = .int .i64 n ∧ Below (w.heap.size + 1 + 1) ((w.alloc (Obj.cells #[Value.string o, Value.int IntKind.u64 u] 24)).alloc (Obj.cells #[Value.string o, Value.int IntKind.u64 u] 37)) wr) (fun k _ => 5 - (intOf k).toNat)
  case atStart => exact ⟨1, by omega, by omega, rfl, Below.refl _ _⟩
  case round =>
    obtain ⟨n, hn1, hn5, rfl, hb0⟩ := hrel
    have z0 := hb0.size
    simp at z0
    have z0_0 : w.heap.size < wr.heap.size := by omega
    have z0_1 : w.heap.size + 1 < wr.heap.size := by omega
    have c0_0 := fun o => hb0.cell (p := ⟨w.heap.size, o, none⟩) (by simp; omega)
    have c0_1 := fun o => hb0.cell (p := ⟨w.heap.size + 1, o, none⟩) (by simp)
    by_cases hlt : n < 5
    · go_wp2_with fail
      go_at_call 15
      refine (does_any n _ _ _ _ _ _ _ _ _ (by omega) (by omega) n0 n1 d0 d1).mono ?_
      rintro e w1 ⟨rfl, hb1⟩
      obtain ⟨hc1, hf1⟩ := bcell hb1
      have z1 := hb1.size
      try simp at z1
      have z1_0 : w.heap.size < w1.heap.size := (by first | omega | (simp at z1; omega))
      have c1_0 := fun o => hc1 (w.heap.size) o (by first | omega | (simp; done) | (simp; omega))
      have d1_0 := fun o => hf1 (w.heap.size) o (by first | omega | (simp; done) | (simp; omega))
      have z1_1 : w.heap.size + 1 < w1.heap.size := (by first | omega | (simp at z1; omega))
      have c1_1 := fun o => hc1 (w.heap.size + 1) o (by first | omega | (simp; done) | (simp; omega))
      have d1_1 := fun o => hf1 (w.heap.size + 1) o (by first | omega | (simp; done) | (simp; omega))
      clear hc1 hf1
      go_wp2_with fail
      go_at_call 16
      refine (refDoes_any n _ _ _ _ _ _ _ _ (by omega) (by omega) n0 n1 d0 d1).mono ?_
      rintro e w2 ⟨rfl, hb2⟩
      obtain ⟨hc2, hf2⟩ := bcell hb2
      have z2 := hb2.size
      try simp at z2
      have z2_0 : w.heap.size < w2.heap.size := (by first | omega | (simp at z2; omega))
      have c2_0 := fun o => hc2 (w.heap.size) o (by first | omega | (simp; done) | (simp; omega))
      have d2_0 := fun o => hf2 (w.heap.size) o (by first | omega | (simp; done) | (simp; omega))
      have z2_1 : w.heap.size + 1 < w2.heap.size := (by first | omega | (simp at z2; omega))
      have c2_1 := fun o => hc2 (w.heap.size + 1) o (by first | omega | (simp; done) | (simp; omega))
      have d2_1 := fun o => hf2 (w.heap.size + 1) o (by first | omega | (simp; done) | (simp; omega))
      have z2_2 : w1.heap.size < w2.heap.size := (by first | omega | (simp at z2; omega))
      have c2_2 := fun o => hc2 (w1.heap.size) o (by first | omega | (simp; done) | (simp; omega))
      have d2_2 := fun o => hf2 (w1.heap.size) o (by first | omega | (simp; done) | (simp; omega))
      have z2_3 : w1.heap.size + 1 < w2.heap.size := (by first | omega | (simp at z2; omega))
      have c2_3 := fun o => hc2 (w1.heap.size + 1) o (by first | omega | (simp; done) | (simp; omega))
      have d2_3 := fun o => hf2 (w1.heap.size + 1) o (by first | omega | (simp; done) | (simp; omega))
      clear hc2 hf2
      go_wp2
      go_roundw
      case rel => exact ⟨n + 1, by omega, by omega, by go_num, (by repeat' first | (with_reducible exact Below.refl _ _) | (with_reducible refine Below.setCell ?_ ?_ _) | (with_reducible refine Below.alloc ?_ ?_ _) | (with_reducible refine Below.drew ?_) | (with_reducible refine Below.trans ?_ (Below.mono (by assumption) ?_)) | omega | (simp; done) | (simp; omega))⟩
      case measure => simp [intOf]; omega
    · have hn : n = 5 := by omega
      subst hn
      go_wp2_with fail
      have hxc := @Ext.cell
      refine wp_region_ext (by kernel_rfl) (by kernel_rfl) ?_
      repeat (go_big_quiet_step ((first | (go_at_call 17; exact Calls.ext_same (Owner_any _ _)) | (go_at_call 18; exact Calls.ext_same (refOwner_any _ _)) | (go_at_call 8; exact Calls.ext_same (Plus_any _ _ _ n0 n1 d0 d1)) | (go_at_call 19; exact Calls.ext_same (refPlus_any _ _ _ n0 n1 d0 d1)) | (go_at_call 9; exact Calls.ext (Runs_any _ _ _ _)) | (go_at_call 10; exact Calls.ext (awake_any _)))))
      refine wpQuiet_nil ?_
      clear hxc
      intro wx hwx
      obtain ⟨x, hx⟩ := hwx
      have hb := x.below
      rw [← hx] at hb
      clear hx x
      go_wp2
      go_ret
      exact ⟨rfl, (by repeat' first | (with_reducible exact Below.refl _ _) | (with_reducible refine Below.setCell ?_ ?_ _) | (with_reducible refine Below.alloc ?_ ?_ _) | (with_reducible refine Below.drew ?_) | (with_reducible refine Below.trans ?_ (Below.mono (by assumption) ?_)) | omega | (simp; done) | (simp; omega))⟩
end Go.Proofs.Yticnnmoheijjdaa
