/- A file's name by a number, and a name's number, as plain data. No program in sight. -/
import Derived.Lib.ItoaNum
import Derived.Lib.ParseIntBCases
import Derived.Lib.Strings
namespace Go.Proofs.YtkhicfoikkllmaaGreatDoor
open Go.Lib
set_option linter.unusedVariables false
set_option linter.unusedSimpArgs false
def pad8 (u : Nat) : List UInt8 := List.replicate (8 - nDigits u) 48 ++ decDigits u
def nameL (w : List UInt8) (u : Nat) : List UInt8 := w ++ [46] ++ pad8 u
theorem c48 (k : Nat) (h : k < 10) : (UInt8.ofNat (48 + k)).toNat = 48 + k := by
  rw [UInt8.toNat_ofNat']
  omega
theorem decDigits_big {u : Nat} (h : ¬ u < 10) : decDigits u = decDigits (u / 10) ++ [UInt8.ofNat (48 + u % 10)] := by
  rw [decDigits, dif_neg h]
theorem parse_dec (u : Nat) (hu : u < 18446744073709551616) : ∀ r, parseUint10 0 (decDigits u ++ r) = parseUint10 u r := by
  induction u using Nat.strongRecOn with
  | _ u ih =>
    intro r
    by_cases h : u < 10
    · rw [decDigits_one h, List.singleton_append, parseUint10, c48 u h]
      rw [if_pos (by omega), if_neg (by omega), if_neg (by omega)]
      congr 1
      omega
    · rw [decDigits_big h, List.append_assoc, ih (u / 10) (by omega) (by omega), List.singleton_append, parseUint10, c48 _ (Nat.mod_lt _ (by omega))]
      rw [if_pos (by omega), if_neg (by omega), if_neg (by omega)]
      congr 1
      omega
theorem parse_zeros (k : Nat) (r : List UInt8) : parseUint10 0 (List.replicate k 48 ++ r) = parseUint10 0 r := by
  induction k with
  | zero => rfl
  | succ k ih =>
    rw [List.replicate_succ, List.cons_append, parseUint10]
    have e : (48 : UInt8).toNat = 48 := rfl
    rw [e, if_pos (by omega), if_neg (by omega), if_neg (by omega)]
    exact ih
theorem pad8_ne (u : Nat) : pad8 u ≠ [] := by
  have h := decDigits_length u
  have h2 := nDigits_pos u
  unfold pad8
  intro e
  have e2 := congrArg List.length e
  rw [List.length_append, h] at e2
  simp at e2
  omega
theorem parse_pad8 (u : Nat) (hu : u < 18446744073709551616) : parseUintB 64 (pad8 u) = .ok u := by
  rw [parseUintB_64, parseMag, if_neg (pad8_ne u)]
  unfold pad8
  have := parse_dec u hu []
  rw [List.append_nil] at this
  rw [parse_zeros, this]
  rfl
theorem dgt_all (u : Nat) : ∀ c ∈ decDigits u, 48 ≤ c.toNat ∧ c.toNat ≤ 57 := by
  induction u using Nat.strongRecOn with
  | _ u ih =>
    intro c hc
    by_cases h : u < 10
    · rw [decDigits_one h] at hc
      rw [List.mem_singleton.1 hc, c48 u h]
      omega
    · rw [decDigits_big h] at hc
      rcases List.mem_append.1 hc with h1 | h1
      · exact ih (u / 10) (by omega) c h1
      · rw [List.mem_singleton.1 h1, c48 _ (Nat.mod_lt _ (by omega))]
        omega
theorem pad8_all (u : Nat) : ∀ c ∈ pad8 u, 48 ≤ c.toNat ∧ c.toNat ≤ 57 := by
  intro c hc
  unfold pad8 at hc
  rcases List.mem_append.1 hc with h1 | h1
  · rw [(List.mem_replicate.1 h1).2]
    decide
  · exact dgt_all u c h1
theorem nDigits_le {u : Nat} (hu : u < 18446744073709551616) : nDigits u ≤ 20 := by
  rcases Nat.eq_zero_or_pos u with h | h
  · rw [nDigits_small (by omega)]; omega
  · have := numDigits_eq u h hu
    split at this <;> omega
theorem pad8_len (u : Nat) : (pad8 u).length = max 8 (nDigits u) := by
  unfold pad8
  rw [List.length_append, decDigits_length, List.length_replicate]
  omega
theorem nameL_len (w : List UInt8) (u : Nat) : (nameL w u).length = w.length + 1 + max 8 (nDigits u) := by
  unfold nameL
  rw [List.length_append, List.length_append, pad8_len]
  rfl
/-- The program's. -/
def numP (w n : List UInt8) : Option Nat := match parseUintB 64 (trimPrefix n (w ++ [46])) with
  | .ok u => if nameL w u = n then some u else none
  | _ => none
/-- The document's. -/
def valW (l : List UInt8) : Nat := l.foldl (fun n c => (10 * n + (c.toNat - 48)) % 18446744073709551616) 0
def digB (c : UInt8) : Bool := decide (48 ≤ c.toNat ∧ c.toNat ≤ 57)
def numR (w n : List UInt8) : Option Nat :=
  if n.length < w.length + 9 ∨ w.length + 21 < n.length then none
  else if (n.drop (w.length + 1)).all digB then (if nameL w (valW (n.drop (w.length + 1))) = n then some (valW (n.drop (w.length + 1))) else none) else none
theorem val_dec (u : Nat) (hu : u < 18446744073709551616) : (decDigits u).foldl (fun n c => (10 * n + (c.toNat - 48)) % 18446744073709551616) 0 = u := by
  induction u using Nat.strongRecOn with
  | _ u ih =>
    by_cases h : u < 10
    · rw [decDigits_one h]
      simp only [List.foldl_cons, List.foldl_nil]
      rw [c48 u h]
      omega
    · rw [decDigits_big h, List.foldl_append, ih (u / 10) (by omega) (by omega)]
      simp only [List.foldl_cons, List.foldl_nil]
      rw [c48 _ (Nat.mod_lt _ (by omega))]
      omega
theorem val_zeros (k : Nat) (r : List UInt8) : valW (List.replicate k 48 ++ r) = valW r := by
  induction k with
  | zero => rfl
  | succ k ih =>
    rw [List.replicate_succ, List.cons_append]
    exact ih
theorem val_pad8 (u : Nat) (hu : u < 18446744073709551616) : valW (pad8 u) = u := by
  unfold pad8
  rw [val_zeros]
  exact val_dec u hu
theorem valW_lt (l : List UInt8) : valW l < 18446744073709551616 := by
  unfold valW
  rcases List.eq_nil_or_concat l with rfl | ⟨a, b, rfl⟩
  · decide
  · rw [List.concat_eq_append, List.foldl_append]
    exact Nat.mod_lt _ (by omega)
theorem nameL_drop (w : List UInt8) (u : Nat) : (nameL w u).drop (w.length + 1) = pad8 u := by
  unfold nameL
  rw [List.drop_left' (by simp)]
theorem numP_name (w : List UInt8) (u : Nat) (hu : u < 18446744073709551616) : numP w (nameL w u) = some u := by
  unfold numP trimPrefix hasPrefix
  have e : (w ++ [46]).isPrefixOf (nameL w u) = true := by
    unfold nameL
    rw [List.isPrefixOf_iff_prefix]
    exact List.prefix_append _ _
  rw [e, if_pos rfl]
  have e2 : (nameL w u).drop (w ++ [46]).length = pad8 u := by
    unfold nameL
    rw [List.drop_left]
  rw [e2, parse_pad8 u hu]
  simp
theorem numR_name (w : List UInt8) (u : Nat) (hu : u < 18446744073709551616) : numR w (nameL w u) = some u := by
  have hl := nameL_len w u
  have hd := nDigits_le hu
  unfold numR
  rw [if_neg (by omega), nameL_drop, val_pad8 u hu]
  have ha : (pad8 u).all digB = true := by
    rw [List.all_eq_true]
    intro c hc
    unfold digB
    exact decide_eq_true (pad8_all u c hc)
  rw [ha]
  simp
theorem numP_inv {w n : List UInt8} {u : Nat} (h : numP w n = some u) : n = nameL w u ∧ u < 18446744073709551616 := by
  unfold numP at h
  split at h
  · rename_i v hv
    split at h
    · rename_i e
      injection h with h
      subst h
      refine ⟨e.symm, ?_⟩
      have := parseUintB_le hv
      omega
    · cases h
  · cases h
theorem numR_inv {w n : List UInt8} {u : Nat} (h : numR w n = some u) : n = nameL w u ∧ u < 18446744073709551616 := by
  unfold numR at h
  split at h
  · cases h
  · split at h
    · split at h
      · rename_i e
        injection h with h
        subst h
        exact ⟨e.symm, valW_lt _⟩
      · cases h
    · cases h
theorem num_eq (w n : List UInt8) : numR w n = numP w n := by
  cases h : numP w n with
  | some u =>
    obtain ⟨rfl, hu⟩ := numP_inv h
    exact numR_name w u hu
  | none =>
    cases h2 : numR w n with
    | none => rfl
    | some u =>
      obtain ⟨rfl, hu⟩ := numR_inv h2
      rw [numP_name w u hu] at h
      cases h
/-- The low places of a number. -/
def lowL (u : Nat) : Nat → List UInt8
  | 0 => []
  | j + 1 => UInt8.ofNat (48 + u / 10 ^ j % 10) :: lowL u j
theorem lowL_zero_high (u j : Nat) (h : u < 10 ^ j) : ∀ k, lowL u (j + k) = List.replicate k 48 ++ lowL u j
  | 0 => rfl
  | k + 1 => by
    rw [← Nat.add_assoc, lowL, lowL_zero_high u j h k]
    have : u / 10 ^ (j + k) = 0 := Nat.div_eq_of_lt (Nat.lt_of_lt_of_le h (Nat.pow_le_pow_right (by omega) (by omega)))
    rw [this]
    rfl
theorem lowL_dec (u : Nat) : lowL u (nDigits u) = decDigits u := by
  induction u using Nat.strongRecOn with
  | _ u ih =>
    have step : ∀ j, lowL u (j + 1) = lowL (u / 10) j ++ [UInt8.ofNat (48 + u % 10)] := by
      intro j
      induction j with
      | zero => simp [lowL]
      | succ j ihj =>
        rw [lowL, ihj, lowL, List.cons_append, Nat.pow_succ, Nat.mul_comm, ← Nat.div_div_eq_div_mul]
    by_cases h : u < 10
    · rw [nDigits_small h, decDigits_one h]
      simp [lowL, Nat.mod_eq_of_lt h]
    · rw [nDigits_big h, step, ih (u / 10) (by omega), decDigits_big h]
theorem lowL_pad8 (u j : Nat) (hj : j = max 8 (nDigits u)) : lowL u j = pad8 u := by
  have h := lowL_zero_high u (nDigits u) (lt_pow_nDigits u) (8 - nDigits u)
  rw [lowL_dec] at h
  rw [hj, show max 8 (nDigits u) = nDigits u + (8 - nDigits u) from by omega, h]
  rfl
theorem lowL_len (u : Nat) : ∀ j, (lowL u j).length = j
  | 0 => rfl
  | j + 1 => by rw [lowL, List.length_cons, lowL_len u j]
/-- Where the document's loop ends. -/
theorem low_end {u j : Nat} (h0 : u / 10 ^ j = 0) (h8 : 8 ≤ j) (hb : ∀ i, i < j → ¬ (u / 10 ^ i = 0 ∧ 8 ≤ i)) : j = max 8 (nDigits u) := by
  have hlt : u < 10 ^ j := by
    rcases Nat.lt_or_ge u (10 ^ j) with h | h
    · exact h
    · have := Nat.div_pos h (Nat.pow_pos (by omega)); omega
  have h1 : nDigits u ≤ j := by
    rcases Nat.lt_or_ge j (nDigits u) with h | h
    · exfalso
      by_cases hu : u = 0
      · subst hu
        rw [nDigits_small (by omega)] at h
        omega
      · have h2 : 10 ^ (nDigits u - 1) ≤ u := by
          have hp : ∀ u : Nat, u ≠ 0 → 10 ^ (nDigits u - 1) ≤ u := by
            intro u
            induction u using Nat.strongRecOn with
            | _ u ih =>
              intro hu
              by_cases h : u < 10
              · rw [nDigits_small h]; simp; omega
              · have h3 := ih (u / 10) (by omega) (by omega)
                rw [nDigits_big h]
                have := nDigits_pos (u / 10)
                rw [show nDigits (u / 10) + 1 - 1 = nDigits (u / 10) - 1 + 1 from by omega, Nat.pow_succ]
                omega
          exact hp u hu
        have h4 : 10 ^ j ≤ 10 ^ (nDigits u - 1) := Nat.pow_le_pow_right (by omega) (by omega)
        omega
    · exact h
  rcases Nat.lt_or_ge (max 8 (nDigits u)) j with h | h
  · exfalso
    refine hb (max 8 (nDigits u)) h ⟨?_, by omega⟩
    refine Nat.div_eq_of_lt (Nat.lt_of_lt_of_le (lt_pow_nDigits u) (Nat.pow_le_pow_right (by omega) (by omega)))
  · omega
end Go.Proofs.YtkhicfoikkllmaaGreatDoor
