/- What was written reads back. -/
import Derived.Test.YtbaobjkhdieapaaDoorPure1
namespace Go.Proofs.YtbaobjkhdieapaaDoor
open Go.RowKit
set_option linter.unusedVariables false
set_option linter.unusedSimpArgs false

theorem beV_foldl (l : List UInt8) : ∀ n : Nat, l.foldl (fun n c => n * 256 + c.toNat) n = n * 256 ^ l.length + beV l := by
  induction l with
  | nil => intro n; simp [beV]
  | cons c l ih =>
    intro n
    have h1 := ih (n * 256 + c.toNat)
    have h2 := ih (0 * 256 + c.toNat)
    simp only [List.foldl_cons, beV] at h1 h2 ⊢
    rw [h1, h2, List.length_cons, Nat.pow_succ]
    simp only [Nat.add_mul, Nat.zero_mul, Nat.zero_add]
    rw [Nat.mul_assoc, Nat.mul_comm 256]
    omega
theorem beV_cons (c : UInt8) (l : List UInt8) : beV (c :: l) = c.toNat * 256 ^ l.length + beV l := by
  have := beV_foldl l (0 * 256 + c.toNat)
  simp only [Nat.zero_mul, Nat.zero_add] at this
  simpa [beV] using this
theorem beV_big (n : Nat) : ∀ w, beV (bigL n w) = n % 256 ^ w
  | 0 => by simp [bigL, beV, Nat.mod_one]
  | w + 1 => by
    show beV (UInt8.ofNat (n / 256 ^ w) :: bigL n w) = _
    have e : 256 ^ (w + 1) = 256 ^ w * 256 := Nat.pow_succ ..
    have : (2 : Nat) ^ 8 = 256 := by decide
    rw [beV_cons, beV_big n w, bigL_len, UInt8.toNat_ofNat', this, e, Nat.mod_mul, Nat.mul_comm (n / 256 ^ w % 256)]
    omega
theorem readVar_var (n : Nat) (h : n < 18446744073709551616) (rest : List UInt8) : readVar (varL1 n ++ rest) = some (n, (varL1 n).length) := by
  unfold varL1
  by_cases hlo : n < 248
  · have hb : behindN n = 0 := by unfold behindN; rw [if_pos hlo]
    rw [hb, if_neg (by omega)]
    simp only [List.singleton_append, readVar, UInt8.toNat_ofNat']
    rw [if_pos (by omega)]
    simp
    omega
  · obtain ⟨a, b⟩ := behindN_spec n (by omega) h
    have h8 := behindN_le n
    have hp : 0 < behindN n := by
      rcases Nat.eq_zero_or_pos (behindN n) with h0 | h0
      · rw [h0] at a; simp at a; omega
      · exact h0
    rw [if_pos hp]
    have e1 : (UInt8.ofNat (247 + behindN n)).toNat = 247 + behindN n := by rw [UInt8.toNat_ofNat']; omega
    simp only [List.cons_append, readVar, e1]
    rw [if_neg (by omega), show 247 + behindN n - 247 = behindN n from by omega]
    have hrb : readBig (bigL n (behindN n) ++ rest) ((behindN n : Nat) : Int) = some n := by
      unfold readBig
      rw [if_neg (by rw [List.length_append, bigL_len]; omega)]
      rw [Int.toNat_natCast, List.take_append_of_le_length (by rw [bigL_len]; omega), List.take_of_length_le (by rw [bigL_len]; omega), beV_big, Nat.mod_eq_of_lt a]
    rw [hrb]
    simp [bigL_len]
    omega
theorem readText_text (a : List UInt8) (most : Nat) (h : a.length ≤ most) (hm : most < 4294967296) : readText (textL [a]) most = some (a, (textL [a]).length) := by
  unfold readText
  simp only [textL, List.append_nil]
  rw [readVar_var a.length (by omega) a]
  simp only []
  rw [if_neg (by simp; omega)]
  simp
theorem readClient_value (n : Nat) (h : n < 18446744073709551616) (a : List UInt8) (ha : a.length ≤ 480) : readClient (valueL n a) = some (n, a) := by
  unfold readClient valueL
  rw [readVar_var n h]
  simp only []
  rw [List.drop_left, show (480 : Int) = ((480 : Nat) : Int) from rfl, readText_text a 480 ha (by omega)]
  simp
theorem clientL_inj (c d : Nat) (hc : c < 256) (hd : d < 256) (h : clientL c = clientL d) : c = d := by
  unfold clientL keyL keyL keyL at h
  simp only [List.append_nil, List.cons_append, List.cons.injEq, true_and] at h
  have h7 : varL1 7 ++ 1 :: varL1 c = varL1 7 ++ 1 :: varL1 d := h
  have h1 := List.append_cancel_left h7
  simp only [List.cons.injEq, true_and] at h1
  have a := readVar_var c (by omega) []
  have b := readVar_var d (by omega) []
  rw [h1] at a
  rw [a] at b
  simp at b
  exact b
theorem valueL_len (n : Nat) (a : List UInt8) (ha : a.length ≤ 480) : (valueL n a).length ≤ 498 := by
  have := varL1_len n
  have := varL1_len a.length
  simp [valueL, textL]
  omega
end Go.Proofs.YtbaobjkhdieapaaDoor
