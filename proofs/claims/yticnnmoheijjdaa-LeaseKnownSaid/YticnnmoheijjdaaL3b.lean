/- Contract of the reference's Does. -/
import Derived.Test.YticnnmoheijjdaaL3
namespace Go.Proofs.Yticnnmoheijjdaa
open Go.RowKit
set_option linter.unusedVariables false
set_option linter.unusedSimpArgs false

set_option maxHeartbeats 4000000 in
theorem refDoes_any (how : Int) (o : ByteArray) (u : Int) (had : Bool) (now : Int) (owner to : ByteArray) (d : Int) (w : World) (g1 : 1 ≤ how) (g4 : how ≤ 4) (h1 : 0 ≤ now) (h2 : now ≤ 18446744073709551615) (h3 : 0 ≤ d) (h4 : d ≤ 18446744073709551615) :
    Calls Try.prog 16 #[.int .i64 how, .agg #[.string o, .int .u64 u], .bool had, .int .u64 now, .string owner, .string to, .int .u64 d] w fun e w' => e = .returned (RV (doesL how o u had now owner to d)) ∧ Below w.heap.size w w' := by
  obtain rfl | rfl | rfl | rfl : how = 1 ∨ how = 2 ∨ how = 3 ∨ how = 4 := by omega
  all_goals
    go_enter Try.func16, Try.ntmps16
    go_wp2_with (first | (go_at_call 18; refine (refOwner_any _ _).mono ?_; rintro e w' ⟨rfl, rfl⟩) | (go_at_call 19; refine (refPlus_any _ _ _ (by assumption) (by assumption) (by assumption) (by assumption)).mono ?_; rintro e w' ⟨rfl, rfl⟩))
  all_goals try go_region
  all_goals try go_wp2
  all_goals refine bodyPost_ret (v := RV _) ?_ rfl ⟨rfl, (by repeat' first | (with_reducible exact Below.refl _ _) | (with_reducible refine Below.setCell ?_ ?_ _) | (with_reducible refine Below.alloc ?_ ?_ _) | (with_reducible refine Below.drew ?_) | (with_reducible refine Below.trans ?_ (Below.mono (by assumption) ?_)) | omega | (simp; done) | (simp; omega))⟩
  all_goals first | (simp [results, Try.results16, go_sem, doesL, takeL, renewL, releaseL, moveL, ownE, toldL, noL, *]; done) | (have z1 : d = 0 := (by omega); simp [results, Try.results16, go_sem, doesL, takeL, renewL, releaseL, moveL, ownE, toldL, noL, *]; done) | (have z2 : ¬ d = 0 := (by omega); have z3 : 0 < d := (by omega); have z4 : ¬ now < u := (by omega); simp [results, Try.results16, go_sem, doesL, takeL, renewL, releaseL, moveL, ownE, toldL, noL, *]; done) | (have z2 : ¬ d = 0 := (by omega); have z3 : 0 < d := (by omega); simp [results, Try.results16, go_sem, doesL, takeL, renewL, releaseL, moveL, ownE, toldL, noL, *]; done)
end Go.Proofs.Yticnnmoheijjdaa
