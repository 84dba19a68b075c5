/- The document's rows are the program's. -/
import Derived.Test.YtbaobjkhdieapaaDoorRef2
namespace Go.Proofs.YtbaobjkhdieapaaDoor
open Go.RowKit
set_option linter.unusedVariables false
set_option linter.unusedSimpArgs false

theorem bigL_snoc (n : Nat) : ∀ w, bigL n (w + 1) = bigL (n / 256) w ++ [UInt8.ofNat n]
  | 0 => by simp [bigL]
  | w + 1 => by
    have ih := bigL_snoc n w
    show UInt8.ofNat (n / 256 ^ (w + 1)) :: bigL n (w + 1) = UInt8.ofNat (n / 256 / 256 ^ w) :: bigL (n / 256) w ++ [UInt8.ofNat n]
    rw [ih, Nat.div_div_eq_div_mul, Nat.pow_succ, Nat.mul_comm 256]
    rfl
theorem bytesL_big : ∀ (w n : Nat), n < 256 ^ w → (w = 0 ∨ 256 ^ (w - 1) ≤ n) → bytesL n = bigL n w
  | 0, n, h, _ => by
    have : n = 0 := by simp at h; omega
    subst this
    unfold bytesL
    simp [bigL]
  | w + 1, n, h, h' => by
    have hp : 0 < 256 ^ w := Nat.pow_pos (by omega)
    have h1 : 256 ^ w ≤ n := by rcases h' with h' | h'; · cases h'
                                · simpa using h'
    unfold bytesL
    rw [dif_neg (by omega), bigL_snoc, bytesL_big w (n / 256) (by rw [Nat.pow_succ] at h; omega) ?_]
    cases w with
    | zero => exact .inl rfl
    | succ w => exact .inr (by rw [Nat.pow_succ] at h1; simp; omega)
theorem bitLenAux_spec : ∀ (f n : Nat), 0 < n → n < 2 ^ f → 2 ^ (Lib.bitLenAux f n - 1) ≤ n ∧ n < 2 ^ Lib.bitLenAux f n ∧ 1 ≤ Lib.bitLenAux f n
  | 0, n, h, h' => by simp at h'; omega
  | f + 1, n, h, h' => by
    unfold Lib.bitLenAux
    split
    · omega
    · rename_i hn
      by_cases h2 : n / 2 = 0
      · have : n = 1 := by omega
        subst this
        cases f <;> simp [Lib.bitLenAux]
      · have ih := bitLenAux_spec f (n / 2) (by omega) (by rw [Nat.pow_succ] at h'; omega)
        obtain ⟨a, b, c⟩ := ih
        generalize Lib.bitLenAux f (n / 2) = m at *
        obtain ⟨m, rfl⟩ : ∃ m', m = m' + 1 := ⟨m - 1, by omega⟩
        simp only [Nat.add_sub_cancel] at a
        have e1 : 1 + (m + 1) - 1 = m + 1 := by omega
        have e2 : 1 + (m + 1) = m + 1 + 1 := by omega
        first
          | (rw [e1, e2, Nat.pow_succ 2 m, Nat.pow_succ 2 (m + 1)]; exact ⟨by omega, by omega, by omega⟩)
          | (simp only [Nat.add_sub_cancel]; rw [Nat.pow_succ 2 m, Nat.pow_succ 2 (m + 1)]; exact ⟨by omega, by omega, by omega⟩)
theorem behindN_spec (n : Nat) (h : 248 ≤ n) (h' : n < 18446744073709551616) : n < 256 ^ behindN n ∧ 256 ^ (behindN n - 1) ≤ n := by
  obtain ⟨a, b, c⟩ := bitLenAux_spec 64 n (by omega) (by omega)
  have e : behindN n = (Lib.bitLenAux 64 n + 7) / 8 := by unfold behindN; rw [if_neg (by omega)]; rfl
  rw [e]
  generalize Lib.bitLenAux 64 n = m at *
  have p : (256 : Nat) = 2 ^ 8 := by decide
  rw [p, ← Nat.pow_mul, ← Nat.pow_mul]
  exact ⟨Nat.lt_of_lt_of_le b (Nat.pow_le_pow_right (by omega) (by omega)), Nat.le_trans (Nat.pow_le_pow_right (by omega) (by omega)) a⟩
theorem rowL_eq (n : Nat) (h' : n < 18446744073709551616) : rowL n = varL1 n := by
  unfold rowL varL1
  by_cases h : n < 248
  · rw [if_pos h, if_neg (by unfold behindN; rw [if_pos h]; omega)]
  · obtain ⟨a, b⟩ := behindN_spec n (by omega) h'
    have hp : 0 < behindN n := by
      rcases Nat.eq_zero_or_pos (behindN n) with h0 | h0
      · rw [h0] at a; simp at a; omega
      · exact h0
    rw [if_neg h, if_pos hp, bytesL_big (behindN n) n a (.inr b), bigL_len]
theorem rkeyL_eq : ∀ a : List Nat, (∀ n ∈ a, n < 18446744073709551616) → rkeyL a = keyL a
  | [], _ => rfl
  | n :: a, h => by
    unfold rkeyL keyL
    rw [rowL_eq n (h n (by simp)), rkeyL_eq a (fun m hm => h m (by simp [hm]))]
end Go.Proofs.YtbaobjkhdieapaaDoor
