/- LeaseTimes returns true for all times and leases. -/
import Derived.Test.YticnnmoheijjdaaL4
import Derived.Test.YticnnmoheijjdaaK
import Derived.Lib.Hide
import Derived.Test.YticnnmoheijjdaaQ
import Derived.Deep.DeepCutAuto
namespace Go.Proofs.Yticnnmoheijjdaa
open Go.RowKit Go.ChangeShapes Go.WideShapes Go.ChangeAt Go.Joins
set_option linter.unusedVariables false

theorem Plus_val (a b r : Int) (h : plusI a b = r) (w : World) (ha : 0 ≤ a) (ha' : a ≤ 18446744073709551615) (hb : 0 ≤ b) (hb' : b ≤ 18446744073709551615) :
    Calls Try.prog 8 #[.int .u64 a, .int .u64 b] w fun e w' => e = .returned (.int .u64 r) ∧ w = w' := h ▸ Plus_any a b w ha ha' hb hb'

theorem Runs_val (o : ByteArray) (u now : Int) (r : Bool) (h : decide (now < u) = r) (w : World) :
    Calls Try.prog 9 #[.agg #[.string o, .int .u64 u], .int .u64 now] w fun e w' => e = .returned (.bool r) ∧ Below w.heap.size w w' := h ▸ Runs_any o u now w

set_option maxRecDepth 100000 in
set_option maxHeartbeats 4000000 in
theorem times_walk (a b c : Int) (o : ByteArray) (u : Int) (w : World) (a0 : 0 ≤ a) (a1 : a ≤ 18446744073709551615) (b0 : 0 ≤ b) (b1 : b ≤ 18446744073709551615) (c0 : 0 ≤ c) (c1 : c ≤ 18446744073709551615) :
    Calls Try.prog 3 #[.int .u64 a, .int .u64 b, .int .u64 c, .agg #[.string o, .int .u64 u]] w fun e w' => e = .returned (.bool true) ∧ Below w.heap.size w w' := by
  obtain ⟨s, hs⟩ : ∃ s, plusI a b = s := ⟨_, rfl⟩
  obtain ⟨t, ht⟩ : ∃ t, plusI a c = t := ⟨_, rfl⟩
  obtain ⟨q, hq⟩ : ∃ q, plusI b c = q := ⟨_, rfl⟩
  obtain ⟨r, hr⟩ : ∃ r, plusI s c = r := ⟨_, rfl⟩
  have hs2 : plusI b a = s := by rw [← hs]; unfold plusI; split <;> split <;> omega
  have hr2 : plusI a q = r := by subst hs hq hr; unfold plusI; split <;> split <;> (try split) <;> (try split) <;> omega
  have hz : plusI a 0 = a := by unfold plusI; split <;> omega
  have s0 : a ≤ s := by subst hs; unfold plusI; split <;> omega
  have s1 : b ≤ s := by subst hs; unfold plusI; split <;> omega
  have s2 : s ≤ 18446744073709551615 := by subst hs; unfold plusI; split <;> omega
  have q0 : 0 ≤ q := by subst hq; unfold plusI; split <;> omega
  have q2 : q ≤ 18446744073709551615 := by subst hq; unfold plusI; split <;> omega
  have ts : b ≤ c → s ≤ t := by intro h; subst hs ht; unfold plusI; split <;> split <;> omega
  have sm : s < 18446744073709551615 → (s - a != b) = false := by intro h; subst hs; unfold plusI at *; split at h <;> simp <;> omega
  have S := Lib.hid hs; have S2 := Lib.hid hs2; have T := Lib.hid ht; have Q := Lib.hid hq; have R := Lib.hid hr; have R2 := Lib.hid hr2; have Z := Lib.hid hz
  clear hs hs2 ht hq hr hr2 hz
  have key : (b ≤ c ∧ s ≤ t ∨ ¬ b ≤ c) := by by_cases h : b ≤ c; exact .inl ⟨h, ts h⟩; exact .inr h
  have key2 : (s < 18446744073709551615 ∧ (s - a != b) = false) ∨ ¬ s < 18446744073709551615 := by by_cases h : s < 18446744073709551615; exact .inl ⟨h, sm h⟩; exact .inr h
  clear ts sm
  go_enter Try.func3, Try.ntmps3
  go_upto_region 2 with (go_at_call 8; first | ((with_reducible refine (Plus_val a b s S.out _ (by omega) (by omega) (by omega) (by omega)).mono ?_); rintro e w' ⟨rfl, rfl⟩) | ((with_reducible refine (Plus_val b a s S2.out _ (by omega) (by omega) (by omega) (by omega)).mono ?_); rintro e w' ⟨rfl, rfl⟩) | ((with_reducible refine (Plus_val a c t T.out _ (by omega) (by omega) (by omega) (by omega)).mono ?_); rintro e w' ⟨rfl, rfl⟩) | ((with_reducible refine (Plus_val s c r R.out _ (by omega) (by omega) (by omega) (by omega)).mono ?_); rintro e w' ⟨rfl, rfl⟩) | ((with_reducible refine (Plus_val b c q Q.out _ (by omega) (by omega) (by omega) (by omega)).mono ?_); rintro e w' ⟨rfl, rfl⟩) | ((with_reducible refine (Plus_val a q r R2.out _ (by omega) (by omega) (by omega) (by omega)).mono ?_); rintro e w' ⟨rfl, rfl⟩) | ((with_reducible refine (Plus_val a 0 a Z.out _ (by omega) (by omega) (by omega) (by omega)).mono ?_); rintro e w' ⟨rfl, rfl⟩))
  go_cut [38] (fun s38 wx => s38 = .bool false ∧ w.alloc (Obj.cells #[Value.string o, Value.int IntKind.u64 u] 24) = wx)
  case first =>
    rcases key2 with ⟨k1, k2⟩ | k1
    all_goals go_wp2_with (go_at_call 8; first | ((with_reducible refine (Plus_val a b s S.out _ (by omega) (by omega) (by omega) (by omega)).mono ?_); rintro e w' ⟨rfl, rfl⟩) | ((with_reducible refine (Plus_val b a s S2.out _ (by omega) (by omega) (by omega) (by omega)).mono ?_); rintro e w' ⟨rfl, rfl⟩) | ((with_reducible refine (Plus_val a c t T.out _ (by omega) (by omega) (by omega) (by omega)).mono ?_); rintro e w' ⟨rfl, rfl⟩) | ((with_reducible refine (Plus_val s c r R.out _ (by omega) (by omega) (by omega) (by omega)).mono ?_); rintro e w' ⟨rfl, rfl⟩) | ((with_reducible refine (Plus_val b c q Q.out _ (by omega) (by omega) (by omega) (by omega)).mono ?_); rintro e w' ⟨rfl, rfl⟩) | ((with_reducible refine (Plus_val a q r R2.out _ (by omega) (by omega) (by omega) (by omega)).mono ?_); rintro e w' ⟨rfl, rfl⟩) | ((with_reducible refine (Plus_val a 0 a Z.out _ (by omega) (by omega) (by omega) (by omega)).mono ?_); rintro e w' ⟨rfl, rfl⟩))
    all_goals go_meet
    all_goals exact ⟨congrArg Value.bool (by simp; omega), rfl⟩
  obtain ⟨rfl, rfl⟩ := hcut
  go_upto_region 4 with fail
  go_cut [65] (fun s65 wx => s65 = .bool false ∧ w.alloc (Obj.cells #[Value.string o, Value.int IntKind.u64 u] 24) = wx)
  case first =>
    rcases key with ⟨k3, k4⟩ | k3
    all_goals go_wp2_with (go_at_call 8; first | ((with_reducible refine (Plus_val a b s S.out _ (by omega) (by omega) (by omega) (by omega)).mono ?_); rintro e w' ⟨rfl, rfl⟩) | ((with_reducible refine (Plus_val b a s S2.out _ (by omega) (by omega) (by omega) (by omega)).mono ?_); rintro e w' ⟨rfl, rfl⟩) | ((with_reducible refine (Plus_val a c t T.out _ (by omega) (by omega) (by omega) (by omega)).mono ?_); rintro e w' ⟨rfl, rfl⟩) | ((with_reducible refine (Plus_val s c r R.out _ (by omega) (by omega) (by omega) (by omega)).mono ?_); rintro e w' ⟨rfl, rfl⟩) | ((with_reducible refine (Plus_val b c q Q.out _ (by omega) (by omega) (by omega) (by omega)).mono ?_); rintro e w' ⟨rfl, rfl⟩) | ((with_reducible refine (Plus_val a q r R2.out _ (by omega) (by omega) (by omega) (by omega)).mono ?_); rintro e w' ⟨rfl, rfl⟩) | ((with_reducible refine (Plus_val a 0 a Z.out _ (by omega) (by omega) (by omega) (by omega)).mono ?_); rintro e w' ⟨rfl, rfl⟩))
    all_goals go_meet
    all_goals exact ⟨congrArg Value.bool (by first | (simp; done) | (simp; omega)), rfl⟩
  obtain ⟨rfl, rfl⟩ := hcut
  clear key key2 S S2 T Q R R2 Z
  go_wp2_with fail
  have combos : (b < a ∧ a < u) ∨ (b < a ∧ u ≤ a) ∨ (a ≤ b ∧ u ≤ b ∧ a < u) ∨ (a ≤ b ∧ u ≤ b ∧ u ≤ a) ∨ (a ≤ b ∧ b < u ∧ a < u) := by omega
  all_goals have A1 : a < u → Hid (decide (a < u) = true) := fun h => decide_eq_true h
  all_goals have A0 : u ≤ a → Hid (decide (a < u) = false) := fun h => decide_eq_false (by omega)
  all_goals have B1 : b < u → Hid (decide (b < u) = true) := fun h => decide_eq_true h
  all_goals have B0 : u ≤ b → Hid (decide (b < u) = false) := fun h => decide_eq_false (by omega)
  all_goals have G1 : b < a → decide (b < a) = true := fun h => decide_eq_true h
  all_goals have G0 : a ≤ b → decide (b < a) = false := fun h => decide_eq_false (by omega)
  all_goals rcases combos with ⟨h1, h2⟩ | ⟨h1, h2⟩ | ⟨h1, h3, h2⟩ | ⟨h1, h3, h2⟩ | ⟨h1, h3, h2⟩
  all_goals first | (have RA := A1 h2; clear A1 A0) | (have RA := A0 h2; clear A1 A0)
  all_goals first | (have RB := B1 h3; clear B1 B0) | (have RB := B0 h3; clear B1 B0) | clear B1 B0
  all_goals first | (have G := G1 h1; clear G1 G0) | (have G := G0 h1; clear G1 G0)
  all_goals have GA := RA.out
  all_goals
    have hxc := @Ext.cell
    refine wp_region_ext (by kernel_rfl) (by kernel_rfl) ?_
    repeat (go_big_quiet_step ((first | (go_at_call_of 9 (Value.int IntKind.u64 a); exact Calls.ext (Runs_val _ _ a _ RA.out _)) | (go_at_call_of 9 (Value.int IntKind.u64 b); exact Calls.ext (Runs_val _ _ b _ RB.out _)) | (go_at_call 10; exact Calls.ext (awake_any _)))))
    refine wpQuiet_nil ?_
    clear hxc
    intro wx hwx
    obtain ⟨x, hx⟩ := hwx
    have hb := x.below
    rw [← hx] at hb
    clear hx x
    go_wp2
    go_ret
    exact ⟨rfl, (by repeat' first | (with_reducible exact Below.refl _ _) | (with_reducible refine Below.setCell ?_ ?_ _) | (with_reducible refine Below.alloc ?_ ?_ _) | (with_reducible refine Below.drew ?_) | (with_reducible refine Below.trans ?_ (Below.mono (by assumption) ?_)) | omega | (simp; done) | (simp; omega))⟩
end Go.Proofs.Yticnnmoheijjdaa
