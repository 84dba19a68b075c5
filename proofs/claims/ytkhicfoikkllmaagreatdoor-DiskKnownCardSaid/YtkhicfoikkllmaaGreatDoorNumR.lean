/- Contracts: the document's Name and Number. -/
import Derived.Test.YtkhicfoikkllmaaGreatDoorNumP
namespace Go.Proofs.YtkhicfoikkllmaaGreatDoor
open Go.RowKit Go.Lib Go.Sort
set_option linter.unusedVariables false
set_option linter.unusedSimpArgs false
def strLen : Value → Nat
  | .string s => s.size
  | _ => 0
theorem low_bound {u j : Nat} (hu : u < 18446744073709551616) (hb : ∀ i, i < j → ¬ (u / 10 ^ i = 0 ∧ 8 ≤ i)) : j ≤ 20 := by
  rcases Nat.lt_or_ge 20 j with h | h
  · exfalso
    refine hb 20 h ⟨Nat.div_eq_of_lt ?_, by omega⟩
    exact Nat.lt_trans hu (by decide)
  · exact h
set_option maxRecDepth 100000 in
set_option maxHeartbeats 2000000 in
theorem RName_any (word : ByteArray) (u : Nat) (hw : word.size ≤ 1048576) (hu : u < 18446744073709551616) (w : World) :
    Calls Tryz.prog 8 #[.string word, .int .u64 u] w fun e w' => e = .returned (.string (bs (nameL word.data.toList u))) ∧ Below w.heap.size w w' := by
  go_enter Tryz.func8, Tryz.ntmps8
  go_wp2_with fail
  go_loopw [1, 5] (fun nv sv wr => ∃ j : Nat, nv = .int .u64 ((u / 10 ^ j : Nat) : Int) ∧ sv = .string (bs (lowL u j)) ∧ (∀ i, i < j → ¬ (u / 10 ^ i = 0 ∧ 8 ≤ i)) ∧ Below w.heap.size w wr) (fun _ sv _ => 100 - strLen sv)
  case atStart => exact ⟨0, by simp, rfl, (fun i hi => by omega), Below.refl _ _⟩
  case round =>
    obtain ⟨j, rfl, rfl, hbj, hbr⟩ := hrel
    have hj20 := low_bound hu hbj
    have hsz : (bs (lowL u j)).size = j := by rw [bs_size, lowL_len]
    have hq64 : u / 10 ^ j < 18446744073709551616 := Nat.lt_of_le_of_lt (Nat.div_le_self _ _) hu
    by_cases hc : u / 10 ^ j = 0 ∧ 8 ≤ j
    · have hje := low_end hc.1 hc.2 hbj
      have hpad := lowL_pad8 u j hje
      generalize u / 10 ^ j = q at *
      obtain ⟨rfl, h8⟩ := hc
      rw [hpad] at hsz ⊢
      have h8' : ¬ (j : Int) < 8 := by omega
      replace hbr := Lib.hid hbr
      have hfin : (word ++ ⟨#[46]⟩) ++ bs (pad8 u) = bs (nameL word.data.toList u) := by
        rw [show (⟨#[46]⟩ : ByteArray) = bs [46] from rfl]
        conv => lhs; rw [← bs_of word]
        rw [bs_append, bs_append]
        rfl
      replace hfin := Lib.hid hfin
      go_wp2_with fail
      go_ret
      exact ⟨by rw [← hfin.out]; rfl, hbr.out⟩
    · have hnext : u / 10 ^ (j + 1) = u / 10 ^ j / 10 := by rw [Nat.pow_succ, Nat.div_div_eq_div_mul]
      have hlow : bs [UInt8.ofNat (48 + u / 10 ^ j % 10)] ++ bs (lowL u j) = bs (lowL u (j + 1)) := by rw [bs_append]; rfl
      have hbn : ∀ i, i < j + 1 → ¬ (u / 10 ^ i = 0 ∧ 8 ≤ i) := fun i hi => by
        rcases Nat.lt_or_ge i j with h | h
        · exact hbj i h
        · have : i = j := by omega
          subst this
          exact hc
      have h48 := c48 (u / 10 ^ j % 10) (Nat.mod_lt _ (by omega))
      generalize u / 10 ^ j = q at *
      have hcond : 0 < q ∨ j < 8 := by omega
      obtain ⟨c, hcd⟩ : ∃ c, UInt8.ofNat (48 + q % 10) = c := ⟨_, rfl⟩
      rw [hcd] at hlow h48
      have hcv : (convert 51 9 (.slice (some ⟨wr.heap.size, 0, none⟩) 1 1)).run Tryz.prog (wr.alloc (.cells #[.int .u8 (48 + (q : Int) % 10)] 5)) = .ok (.string (bs [c])) (wr.alloc (.cells #[.int .u8 (48 + (q : Int) % 10)] 5)) :=
        run_convert_bytes_back (P := Tryz.prog) (wr.alloc (.cells #[.int .u8 (48 + (q : Int) % 10)] 5)) 51 9 5 ⟨wr.heap.size, 0, none⟩ 1 [c] Tryz.underlying51 Tryz.underlying5 Tryz.underlying9 (fun k hk => by
          have hk0 : k = 0 := by simp at hk; exact hk
          subst hk0
          rw [add_plain, World.cell?_alloc_new]
          simp only [List.getElem_cons_zero]
          rw [h48]
          simp)
      have hc1 : (bs [c]).size = 1 := bs_size _
      have hbx := hbr.alloc hbr.size (.cells #[.int .u8 (48 + (q : Int) % 10)] 5)
      have hnx : ∃ j', Value.int .u64 ((q : Int) / 10) = .int .u64 ((u / 10 ^ j' : Nat) : Int) ∧ Value.string (bs [c] ++ bs (lowL u j)) = .string (bs (lowL u j')) ∧ (∀ i, i < j' → ¬ (u / 10 ^ i = 0 ∧ 8 ≤ i)) ∧ Below w.heap.size w (wr.alloc (.cells #[.int .u8 (48 + (q : Int) % 10)] 5)) :=
        ⟨j + 1, by rw [hnext]; rfl, by rw [hlow], hbn, hbx⟩
      have hms : (bs [c] ++ bs (lowL u j)).size = j + 1 := by rw [hlow, bs_size, lowL_len]
      replace hms := Lib.hid hms
      replace hnx := Lib.hid hnx
      replace hbx := Lib.hid hbx
      replace hc := Lib.hid hc
      replace hcd := Lib.hid hcd
      replace hnext := Lib.hid hnext
      replace hlow := Lib.hid hlow
      replace hbn := Lib.hid hbn
      replace hbj := Lib.hid hbj
      replace hbr := Lib.hid hbr
      replace h48 := Lib.hid h48
      by_cases hq : 0 < q
      · have hq' : (0 : Int) < (q : Int) := by omega
        go_wp2_with fail
        exact ⟨hnx.out, by simp only [strLen]; rw [hms.out, hsz]; omega⟩
      · have hq' : ¬ (0 : Int) < (q : Int) := by omega
        have hj8 : (j : Int) < 8 := by omega
        go_wp2_with fail
        exact ⟨hnx.out, by simp only [strLen]; rw [hms.out, hsz]; omega⟩
end Go.Proofs.YtkhicfoikkllmaaGreatDoor
