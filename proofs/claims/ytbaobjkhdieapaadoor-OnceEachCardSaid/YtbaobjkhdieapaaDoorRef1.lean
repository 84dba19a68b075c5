/- Contracts of the document's answers: a number's row. -/
import Derived.Test.YtbaobjkhdieapaaDoorRow4
namespace Go.Proofs.YtbaobjkhdieapaaDoor
open Go.RowKit
set_option linter.unusedVariables false
set_option linter.unusedSimpArgs false

def bytesL (n : Nat) : List UInt8 := if h : n = 0 then [] else bytesL (n / 256) ++ [UInt8.ofNat n]
decreasing_by omega
def rowL (n : Nat) : List UInt8 := if n < 248 then [UInt8.ofNat n] else UInt8.ofNat (247 + (bytesL n).length) :: bytesL n

theorem bytesL_len (n : Nat) : ∀ k, n < 256 ^ k → (bytesL n).length ≤ k := by
  induction n using Nat.strongRecOn with
  | ind n ih =>
    intro k hk
    unfold bytesL
    split
    · simp
    · rename_i h
      cases k with
      | zero => simp at hk; omega
      | succ k =>
        have := ih (n / 256) (by omega) k (by rw [Nat.pow_succ] at hk; omega)
        simp
        omega
theorem one_byte (w : World) (b : Nat) (u : UInt8) (h : w.cell? ⟨b, 0, none⟩ = some (.int .u8 u.toNat)) : (convert 34 9 (.slice (some ⟨b, 0, none⟩) 1 1)).run Tryd.prog w = .ok (.string (bs [u])) w := by
  have := run_convert_bytes_arg (P := Tryd.prog) w 34 5 Tryd.underlying34 Tryd.underlying5 b 0 1 1 [(u.toNat : Int)] (by simp) (fun i hi => by
    have : i = 0 := by omega
    subst this
    simpa using h) 9 Tryd.underlying9
  rw [this]
  simp [strOfNums, bs]

set_option maxRecDepth 100000 in
set_option maxHeartbeats 2000000 in
theorem bytesOf_any (n : Int) (w : World) (h0 : 0 ≤ n) (h1 : n ≤ 18446744073709551615) :
    Calls Tryd.prog 28 #[.int .u64 n] w fun e w' => e = .returned (.string (bs (bytesL n.toNat))) ∧ Below w.heap.size w w' := by
  have hlen := bytesL_len n.toNat 8 (by omega)
  have hconv := one_byte
  go_enter Tryd.func28, Tryd.ntmps28
  go_wp2
  go_loopw [0, 3] (fun v s wr => ∃ (m : Int) (L : List UInt8), 0 ≤ m ∧ m ≤ 18446744073709551615 ∧ v = .int .u64 m ∧ s = .string (bs L) ∧ bytesL m.toNat ++ L = bytesL n.toNat ∧ Below w.heap.size w wr) (fun v _ _ => (intOf v).toNat)
  case atStart => exact ⟨n, [], h0, h1, rfl, rfl, by simp, Below.refl _ _⟩
  case round =>
    obtain ⟨m, L, m0, m1, rfl, rfl, hL, hb0⟩ := hrel
    by_cases hm : 0 < m
    · go_wp2_with fail
      have hby := byte_of0 m m0
      rw [one_byte _ wr.heap.size (UInt8.ofNat m.toNat) (by rw [← hby]; simp [go_sem])]
      simp only [Result.andThen]
      rw [Oper.upon_value]
      have q1 : (bs [UInt8.ofNat m.toNat]).size + (bs L).size ≤ 9223372036854775807 := by
        have := congrArg List.length hL
        rw [List.length_append] at this
        rw [bs_size, bs_size]
        simp
        omega
      replace hby := Lib.hid hby
      have hL' : bytesL (m / 256).toNat ++ (UInt8.ofNat m.toNat :: L) = bytesL n.toNat := by
        rw [← hL, show (m / 256).toNat = m.toNat / 256 from by omega]
        conv => rhs; unfold bytesL
        rw [dif_neg (by omega)]
        simp
      replace hL := Lib.hid hL
      replace hL' := Lib.hid hL'
      go_wp2_with fail
      refine ⟨⟨m / 256, UInt8.ofNat m.toNat :: L, by omega, by omega, rfl, by rw [bs_append]; rfl, hL'.out, hb0.alloc hb0.size _⟩, by simp [intOf]; omega⟩
    · obtain rfl : m = 0 := by omega
      go_wp2_with fail
      go_ret
      refine ⟨?_, hb0⟩
      rw [← hL]
      unfold bytesL
      simp
end Go.Proofs.YtbaobjkhdieapaaDoor
