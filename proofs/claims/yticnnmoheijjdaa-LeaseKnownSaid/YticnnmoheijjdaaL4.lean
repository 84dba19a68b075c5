/- Contracts of awake and Great. -/
import Derived.Test.YticnnmoheijjdaaL3b
namespace Go.Proofs.Yticnnmoheijjdaa
open Go.RowKit
set_option linter.unusedVariables false
set_option linter.unusedSimpArgs false

theorem aw_take (w : World) : Calls Try.prog 11 #[.agg #[.string ⟨#[]⟩, .int .u64 0], .bool false, .int .u64 5, .string ⟨#[97]⟩, .int .u64 10] w fun e w' => e = .returned (.tuple #[.agg #[.string ⟨#[97]⟩, .int .u64 15], .agg #[.int .i64 1, .string ⟨#[97]⟩, .int .u64 5, .int .u64 15], .int .i64 0]) ∧ Below w.heap.size w w' :=
  (Take_any ⟨#[]⟩ 0 false 5 ⟨#[97]⟩ 10 w (by omega) (by omega) (by omega) (by omega)).mono fun e w' h => ⟨h.1.trans (by rw [show takeL 0 false 5 ⟨#[97]⟩ 10 = toldL ⟨#[97]⟩ 15 1 5 from by kernel_rfl]; rfl), h.2⟩
theorem aw_move (w : World) : Calls Try.prog 14 #[.agg #[.string ⟨#[97]⟩, .int .u64 15], .bool true, .int .u64 7, .string ⟨#[97]⟩, .string ⟨#[99]⟩] w fun e w' => e = .returned (.tuple #[.agg #[.string ⟨#[99]⟩, .int .u64 15], .agg #[.int .i64 4, .string ⟨#[99]⟩, .int .u64 7, .int .u64 15], .int .i64 0]) ∧ Below w.heap.size w w' :=
  (Move_any ⟨#[97]⟩ 15 true 7 ⟨#[97]⟩ ⟨#[99]⟩ w).mono fun e w' h => ⟨h.1.trans (by rw [show moveL ⟨#[97]⟩ 15 true 7 ⟨#[97]⟩ ⟨#[99]⟩ = toldL ⟨#[99]⟩ 15 4 7 from by kernel_rfl]; rfl), h.2⟩

set_option maxHeartbeats 1000000 in
theorem awake_any (w : World) :
    Calls Try.prog 10 #[] w fun e w' => e = .returned (.bool true) ∧ Below w.heap.size w w' := by
  go_enter Try.func10, Try.ntmps10
  go_wp2_with fail
  go_at_call 11
  refine (aw_take _).mono ?_
  rintro e w1 ⟨rfl, hb1⟩
  obtain ⟨hc1, hf1⟩ := bcell hb1
  have z1 := hb1.size
  try simp at z1
  clear hc1 hf1
  go_wp2_with fail
  go_at_call 14
  refine (aw_move _).mono ?_
  rintro e w2 ⟨rfl, hb2⟩
  obtain ⟨hc2, hf2⟩ := bcell hb2
  have z2 := hb2.size
  try simp at z2
  have z2_0 : w1.heap.size < w2.heap.size := (by first | omega | (simp at z2; omega))
  have c2_0 := fun o => hc2 (w1.heap.size) o (by first | omega | (simp; done) | (simp; omega))
  have d2_0 := fun o => hf2 (w1.heap.size) o (by first | omega | (simp; done) | (simp; omega))
  have z2_1 : w1.heap.size + 1 < w2.heap.size := (by first | omega | (simp at z2; omega))
  have c2_1 := fun o => hc2 (w1.heap.size + 1) o (by first | omega | (simp; done) | (simp; omega))
  have d2_1 := fun o => hf2 (w1.heap.size + 1) o (by first | omega | (simp; done) | (simp; omega))
  clear hc2 hf2
  go_wp2_with fail
  go_at_call 9
  refine (Runs_any _ _ _ _).mono ?_
  rintro e w3 ⟨rfl, hb3⟩
  obtain ⟨hc3, hf3⟩ := bcell hb3
  have z3 := hb3.size
  try simp at z3
  have z3_0 : w1.heap.size < w3.heap.size := (by first | omega | (simp at z3; omega))
  have c3_0 := fun o => hc3 (w1.heap.size) o (by first | omega | (simp; done) | (simp; omega))
  have d3_0 := fun o => hf3 (w1.heap.size) o (by first | omega | (simp; done) | (simp; omega))
  have z3_1 : w1.heap.size + 1 < w3.heap.size := (by first | omega | (simp at z3; omega))
  have c3_1 := fun o => hc3 (w1.heap.size + 1) o (by first | omega | (simp; done) | (simp; omega))
  have d3_1 := fun o => hf3 (w1.heap.size + 1) o (by first | omega | (simp; done) | (simp; omega))
  have z3_2 : w2.heap.size < w3.heap.size := (by first | omega | (simp at z3; omega))
  have c3_2 := fun o => hc3 (w2.heap.size) o (by first | omega | (simp; done) | (simp; omega))
  have d3_2 := fun o => hf3 (w2.heap.size) o (by first | omega | (simp; done) | (simp; omega))
  have z3_3 : w2.heap.size + 1 < w3.heap.size := (by first | omega | (simp at z3; omega))
  have c3_3 := fun o => hc3 (w2.heap.size + 1) o (by first | omega | (simp; done) | (simp; omega))
  have d3_3 := fun o => hf3 (w2.heap.size + 1) o (by first | omega | (simp; done) | (simp; omega))
  clear hc3 hf3
  go_wp2_with fail
  go_at_call 9
  refine (Runs_any _ _ _ _).mono ?_
  rintro e w4 ⟨rfl, hb4⟩
  obtain ⟨hc4, hf4⟩ := bcell hb4
  have z4 := hb4.size
  try simp at z4
  have z4_0 : w1.heap.size < w4.heap.size := (by first | omega | (simp at z4; omega))
  have c4_0 := fun o => hc4 (w1.heap.size) o (by first | omega | (simp; done) | (simp; omega))
  have d4_0 := fun o => hf4 (w1.heap.size) o (by first | omega | (simp; done) | (simp; omega))
  have z4_1 : w1.heap.size + 1 < w4.heap.size := (by first | omega | (simp at z4; omega))
  have c4_1 := fun o => hc4 (w1.heap.size + 1) o (by first | omega | (simp; done) | (simp; omega))
  have d4_1 := fun o => hf4 (w1.heap.size + 1) o (by first | omega | (simp; done) | (simp; omega))
  have z4_2 : w2.heap.size < w4.heap.size := (by first | omega | (simp at z4; omega))
  have c4_2 := fun o => hc4 (w2.heap.size) o (by first | omega | (simp; done) | (simp; omega))
  have d4_2 := fun o => hf4 (w2.heap.size) o (by first | omega | (simp; done) | (simp; omega))
  have z4_3 : w2.heap.size + 1 < w4.heap.size := (by first | omega | (simp at z4; omega))
  have c4_3 := fun o => hc4 (w2.heap.size + 1) o (by first | omega | (simp; done) | (simp; omega))
  have d4_3 := fun o => hf4 (w2.heap.size + 1) o (by first | omega | (simp; done) | (simp; omega))
  clear hc4 hf4
  go_wp2
  go_ret
  exact ⟨rfl, (by repeat' first | (with_reducible exact Below.refl _ _) | (with_reducible refine Below.setCell ?_ ?_ _) | (with_reducible refine Below.alloc ?_ ?_ _) | (with_reducible refine Below.drew ?_) | (with_reducible refine Below.trans ?_ (Below.mono (by assumption) ?_)) | omega | (simp; done) | (simp; omega))⟩
end Go.Proofs.Yticnnmoheijjdaa
