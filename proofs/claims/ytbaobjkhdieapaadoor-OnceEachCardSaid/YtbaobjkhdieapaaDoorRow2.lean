/- Contracts of packages rows and once: a client's value, read and written; Keep. -/
import Derived.Test.YtbaobjkhdieapaaDoorRow1
namespace Go.Proofs.YtbaobjkhdieapaaDoor
open Go.RowKit
set_option linter.unusedVariables false
set_option linter.unusedSimpArgs false

theorem Text_one (b : Nat) (s : ByteArray) (w : World) (hb : b < w.heap.size) (hc : w.cell? ⟨b, 0, none⟩ = some (.string s)) (hs : s.size ≤ 1073741824) :
    Calls Tryd.prog 23 #[.slice (some ⟨b, 0, none⟩) 1 1] w fun e w' => e = .returned (.string (bs (textL [s.data.toList]))) ∧ Below w.heap.size w w' := by
  have h := Text_any (some ⟨b, 0, none⟩) [s] 1 w ⟨rfl, fun _ => ⟨_, rfl, hb, fun j u hu => by
    cases j with
    | zero =>
      simp at hu
      subst hu
      exact hc
    | succ j => simp at hu⟩⟩ (by simp) (by have := varL1_len s.size; simp [textL, dlen]; omega)
  simpa using h

def valueL (n : Nat) (s : List UInt8) : List UInt8 := varL1 n ++ textL [s]

set_option maxRecDepth 100000 in
set_option maxHeartbeats 2000000 in
theorem ClientValue_any (n : Int) (s : ByteArray) (w : World) (h0 : 0 ≤ n) (h1 : n ≤ 18446744073709551615) (hs : s.size ≤ 480) :
    Calls Tryd.prog 15 #[.int .u64 n, .string s] w fun e w' => e = .returned (.tuple #[.string (bs (valueL n.toNat s.data.toList)), .int .i64 0]) ∧ Below w.heap.size w w' := by
  have hl1 := varL1_len n.toNat
  have hl2 : (textL [s.data.toList]).length ≤ 489 := by have := varL1_len s.size; simp [textL, dlen]; omega
  have q1 : (bs (varL1 n.toNat)).size + (bs (textL [s.data.toList])).size ≤ 9223372036854775807 := by rw [bs_size, bs_size]; omega
  go_enter Tryd.func15, Tryd.ntmps15
  go_wp2_with fail
  refine (Var_one _ n _ (by simp) (by simp [go_sem]) h0 h1).mono ?_
  rintro e w1 ⟨rfl, hb1⟩
  have hz1 := hb1.size
  simp at hz1
  go_wp2_with fail
  refine (Text_one _ s _ (by simp) (by simp [go_sem]) (by omega)).mono ?_
  rintro e w2 ⟨rfl, hb2⟩
  go_wp2_with fail
  go_ret2
  refine ⟨?_, (by repeat' first | (with_reducible exact Below.refl _ _) | (with_reducible refine Below.setCell ?_ ?_ _) | (with_reducible refine Below.alloc ?_ ?_ _) | (with_reducible refine Below.drew ?_) | (with_reducible refine Below.trans ?_ (Below.mono (by assumption) ?_)) | omega | (simp; done) | (simp; omega))⟩
  rw [bs_append]
  rfl
end Go.Proofs.YtbaobjkhdieapaaDoor
