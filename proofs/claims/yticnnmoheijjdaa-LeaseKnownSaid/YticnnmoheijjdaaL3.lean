/- Contracts of the reference's functions, of 'does'. -/
import Derived.Test.YticnnmoheijjdaaL2
namespace Go.Proofs.Yticnnmoheijjdaa
open Go.RowKit
set_option linter.unusedVariables false
set_option linter.unusedSimpArgs false

def doesL (how : Int) (o : ByteArray) (u : Int) (had : Bool) (now : Int) (owner to : ByteArray) (d : Int) : LR :=
  if how = 1 then takeL u had now owner d else if how = 2 then renewL o u had now owner d else if how = 3 then releaseL o u had now owner else moveL o u had now owner to

theorem toList_nil (s : ByteArray) : s.toList = [] ↔ s.size = 0 := by
  rw [ByteArray.toList_eq, ← List.length_eq_zero_iff]; simp

set_option maxHeartbeats 400000 in
theorem refOwner_any (s : ByteArray) (w : World) :
    Calls Try.prog 18 #[.string s] w fun e w' => e = .returned (.bool (ownerOk s)) ∧ w = w' := by
  go_enter Try.func18, Try.ntmps18
  go_wp2
  all_goals go_ret
  all_goals refine ⟨ret_bool ?_, rfl⟩
  · rename_i h
    have h0 : ownerOk s = false := by rw [toList_nil] at h; unfold ownerOk; simp only [Bool.and_eq_false_iff, decide_eq_false_iff_not]; left; omega
    rw [h0]
  · rename_i h
    rw [toList_nil] at h
    have e : s.toList.isEmpty = false := by rw [List.isEmpty_eq_false_iff, ne_eq, toList_nil]; exact h
    rw [e]; unfold ownerOk; rw [Bool.eq_iff_iff]; simp; omega

set_option maxHeartbeats 400000 in
theorem refPlus_any (a b : Int) (w : World) (ha : 0 ≤ a) (ha' : a ≤ 18446744073709551615) (hb : 0 ≤ b) (hb' : b ≤ 18446744073709551615) :
    Calls Try.prog 19 #[.int .u64 a, .int .u64 b] w fun e w' => e = .returned (.int .u64 (plusI a b)) ∧ w = w' := by
  go_enter Try.func19, Try.ntmps19
  go_wp2
  all_goals go_ret
  all_goals refine ⟨ret_int ?_, rfl⟩
  all_goals rename_i h
  all_goals rw [IntKind.wrap_u64] at *
  all_goals unfold plusI
  all_goals split <;> omega

set_option maxHeartbeats 1000000 in
theorem does_any (how : Int) (o : ByteArray) (u : Int) (had : Bool) (now : Int) (owner to : ByteArray) (d wait : Int) (w : World) (g1 : 1 ≤ how) (g4 : how ≤ 4) (h1 : 0 ≤ now) (h2 : now ≤ 18446744073709551615) (h3 : 0 ≤ d) (h4 : d ≤ 18446744073709551615) :
    Calls Try.prog 15 #[.agg #[.string o, .int .u64 u], .bool had, .int .u64 now, .agg #[.int .i64 how, .string owner, .string to, .int .u64 d, .int .u64 wait]] w fun e w' => e = .returned (RV (doesL how o u had now owner to d)) ∧ Below w.heap.size w w' := by
  obtain rfl | rfl | rfl | rfl : how = 1 ∨ how = 2 ∨ how = 3 ∨ how = 4 := by omega
  all_goals
    go_enter Try.func15, Try.ntmps15
    go_wp2_with (first | (go_at_call 11; refine (Take_any _ _ _ _ _ _ _ (by assumption) (by assumption) (by assumption) (by assumption)).mono ?_; rintro e w' ⟨rfl, hb⟩; obtain ⟨hc, hf⟩ := bcell hb; have hz := hb.size; have c0 := fun o => hc (w.heap.size) o (by first | omega | (simp; done) | (simp; omega)); have d0 := fun o => hf (w.heap.size) o (by first | omega | (simp; done) | (simp; omega)); have hz0 : w.heap.size < w'.heap.size := (by first | omega | (simp at hz; omega)); have c1 := fun o => hc (w.heap.size + 1) o (by first | omega | (simp; done) | (simp; omega)); have d1 := fun o => hf (w.heap.size + 1) o (by first | omega | (simp; done) | (simp; omega)); have hz1 : w.heap.size + 1 < w'.heap.size := (by first | omega | (simp at hz; omega)); have c2 := fun o => hc (w.heap.size + 1 + 1) o (by first | omega | (simp; done) | (simp; omega)); have d2 := fun o => hf (w.heap.size + 1 + 1) o (by first | omega | (simp; done) | (simp; omega)); have hz2 : w.heap.size + 1 + 1 < w'.heap.size := (by first | omega | (simp at hz; omega)); have c3 := fun o => hc (w.heap.size + 1 + 1 + 1) o (by first | omega | (simp; done) | (simp; omega)); have d3 := fun o => hf (w.heap.size + 1 + 1 + 1) o (by first | omega | (simp; done) | (simp; omega)); have hz3 : w.heap.size + 1 + 1 + 1 < w'.heap.size := (by first | omega | (simp at hz; omega)); clear hc hf) | (go_at_call 12; refine (Renew_any _ _ _ _ _ _ _ (by assumption) (by assumption) (by assumption) (by assumption)).mono ?_; rintro e w' ⟨rfl, hb⟩; obtain ⟨hc, hf⟩ := bcell hb; have hz := hb.size; have c0 := fun o => hc (w.heap.size) o (by first | omega | (simp; done) | (simp; omega)); have d0 := fun o => hf (w.heap.size) o (by first | omega | (simp; done) | (simp; omega)); have hz0 : w.heap.size < w'.heap.size := (by first | omega | (simp at hz; omega)); have c1 := fun o => hc (w.heap.size + 1) o (by first | omega | (simp; done) | (simp; omega)); have d1 := fun o => hf (w.heap.size + 1) o (by first | omega | (simp; done) | (simp; omega)); have hz1 : w.heap.size + 1 < w'.heap.size := (by first | omega | (simp at hz; omega)); have c2 := fun o => hc (w.heap.size + 1 + 1) o (by first | omega | (simp; done) | (simp; omega)); have d2 := fun o => hf (w.heap.size + 1 + 1) o (by first | omega | (simp; done) | (simp; omega)); have hz2 : w.heap.size + 1 + 1 < w'.heap.size := (by first | omega | (simp at hz; omega)); have c3 := fun o => hc (w.heap.size + 1 + 1 + 1) o (by first | omega | (simp; done) | (simp; omega)); have d3 := fun o => hf (w.heap.size + 1 + 1 + 1) o (by first | omega | (simp; done) | (simp; omega)); have hz3 : w.heap.size + 1 + 1 + 1 < w'.heap.size := (by first | omega | (simp at hz; omega)); clear hc hf) | (go_at_call 13; refine (Release_any _ _ _ _ _ _).mono ?_; rintro e w' ⟨rfl, hb⟩; obtain ⟨hc, hf⟩ := bcell hb; have hz := hb.size; have c0 := fun o => hc (w.heap.size) o (by first | omega | (simp; done) | (simp; omega)); have d0 := fun o => hf (w.heap.size) o (by first | omega | (simp; done) | (simp; omega)); have hz0 : w.heap.size < w'.heap.size := (by first | omega | (simp at hz; omega)); have c1 := fun o => hc (w.heap.size + 1) o (by first | omega | (simp; done) | (simp; omega)); have d1 := fun o => hf (w.heap.size + 1) o (by first | omega | (simp; done) | (simp; omega)); have hz1 : w.heap.size + 1 < w'.heap.size := (by first | omega | (simp at hz; omega)); have c2 := fun o => hc (w.heap.size + 1 + 1) o (by first | omega | (simp; done) | (simp; omega)); have d2 := fun o => hf (w.heap.size + 1 + 1) o (by first | omega | (simp; done) | (simp; omega)); have hz2 : w.heap.size + 1 + 1 < w'.heap.size := (by first | omega | (simp at hz; omega)); have c3 := fun o => hc (w.heap.size + 1 + 1 + 1) o (by first | omega | (simp; done) | (simp; omega)); have d3 := fun o => hf (w.heap.size + 1 + 1 + 1) o (by first | omega | (simp; done) | (simp; omega)); have hz3 : w.heap.size + 1 + 1 + 1 < w'.heap.size := (by first | omega | (simp at hz; omega)); clear hc hf) | (go_at_call 14; refine (Move_any _ _ _ _ _ _ _).mono ?_; rintro e w' ⟨rfl, hb⟩; obtain ⟨hc, hf⟩ := bcell hb; have hz := hb.size; have c0 := fun o => hc (w.heap.size) o (by first | omega | (simp; done) | (simp; omega)); have d0 := fun o => hf (w.heap.size) o (by first | omega | (simp; done) | (simp; omega)); have hz0 : w.heap.size < w'.heap.size := (by first | omega | (simp at hz; omega)); have c1 := fun o => hc (w.heap.size + 1) o (by first | omega | (simp; done) | (simp; omega)); have d1 := fun o => hf (w.heap.size + 1) o (by first | omega | (simp; done) | (simp; omega)); have hz1 : w.heap.size + 1 < w'.heap.size := (by first | omega | (simp at hz; omega)); have c2 := fun o => hc (w.heap.size + 1 + 1) o (by first | omega | (simp; done) | (simp; omega)); have d2 := fun o => hf (w.heap.size + 1 + 1) o (by first | omega | (simp; done) | (simp; omega)); have hz2 : w.heap.size + 1 + 1 < w'.heap.size := (by first | omega | (simp at hz; omega)); have c3 := fun o => hc (w.heap.size + 1 + 1 + 1) o (by first | omega | (simp; done) | (simp; omega)); have d3 := fun o => hf (w.heap.size + 1 + 1 + 1) o (by first | omega | (simp; done) | (simp; omega)); have hz3 : w.heap.size + 1 + 1 + 1 < w'.heap.size := (by first | omega | (simp at hz; omega)); clear hc hf))
  all_goals refine bodyPost_ret (v := RV _) ?_ rfl ⟨rfl, (by repeat' first | (with_reducible exact Below.refl _ _) | (with_reducible refine Below.setCell ?_ ?_ _) | (with_reducible refine Below.alloc ?_ ?_ _) | (with_reducible refine Below.drew ?_) | (with_reducible refine Below.trans ?_ (Below.mono (by assumption) ?_)) | omega | (simp; done) | (simp; omega))⟩
  all_goals simp [results, Try.results15, go_sem, doesL, *]

end Go.Proofs.Yticnnmoheijjdaa
