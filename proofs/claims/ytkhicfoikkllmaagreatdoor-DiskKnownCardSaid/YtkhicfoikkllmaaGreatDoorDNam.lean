/- DiskNames: the walk. -/
import Derived.Test.YtkhicfoikkllmaaGreatDoorNumR2
namespace Go.Proofs.YtkhicfoikkllmaaGreatDoor
open Go.RowKit Go.Lib Go.Sort
set_option linter.unusedVariables false
set_option linter.unusedSimpArgs false
set_option maxRecDepth 100000 in
set_option maxHeartbeats 4000000 in
theorem Names_any (word0 name0 : ByteArray) (u : Nat) (hu : u < 18446744073709551616) (w : World) (hl : Laid5 w) (h6 : 6 ≤ w.heap.size) (hw0 : word0.size ≤ maxLen) (hn0 : name0.size ≤ maxLen) :
    Calls Tryz.prog 3 #[.string word0, .string name0, .int .u64 u] w fun e w' => e = .returned (.bool true) ∧ Below w.heap.size w w' := by
  have hawk := Lib.hid awake_any
  unfold maxLen at hw0 hn0
  by_cases hwl : 200 < word0.size
  · have hwl' : (200 : Int) < word0.size := by omega
    have hws : (word0.extract 0 200).size ≤ 200 := by rw [ByteArray.size_extract]; omega
    obtain ⟨word, hword⟩ : ∃ x, word0.extract 0 200 = x := ⟨_, rfl⟩
    rw [hword] at hws
    by_cases hnl : 200 < name0.size
    · have hnl' : (200 : Int) < name0.size := by omega
      have hns : (name0.extract 0 200).size ≤ 200 := by rw [ByteArray.size_extract]; omega
      obtain ⟨name, hname⟩ : ∃ x, name0.extract 0 200 = x := ⟨_, rfl⟩
      rw [hname] at hns
      have k1 := Number_any word name (by omega) (by omega) w hl h6
      have k2 := RNumber_any word name (by omega) (by omega)
      rw [num_eq] at k2
      have k5 := RName_any word u (by omega) hu
      have hns2 : (bs (nameL (word).data.toList u)).size ≤ 1000 := by
        have e1 : (word).data.toList.length = (word).size := rfl
        have e2 := nDigits_le hu
        rw [bs_size, nameL_len]
        omega
      have k3 := fun W hb => Name_any word u (by omega) hu W (hl.below (B := w.heap.size) (w' := W) hb h6).tab
      have k4 := fun W (hb : Below w.heap.size w W) => Number_any word (bs (nameL (word).data.toList u)) (by omega) (by omega) W (hl.below (B := w.heap.size) (w' := W) hb h6) (by have := hb.size; omega)
      rw [bs_data, numP_name _ u hu] at k4
      cases hp : numP (word).data.toList (name).data.toList with
      | some v =>
        rw [hp] at k1 k2
        simp only [numV] at k1 k2 k4
        replace k1 := Lib.hid k1
        replace k2 := Lib.hid k2
        replace k3 := Lib.hid k3
        replace k4 := Lib.hid k4
        replace k5 := Lib.hid k5
        replace hp := Lib.hid hp
        replace hl := Lib.hid hl
        go_enter Tryz.func3, Tryz.ntmps3
        go_wp2_with fail
        refine k1.out.mono ?_
        rintro e w1 ⟨rfl, hb1⟩
        have hz1 := hb1.size
        replace hb1 := Lib.hid hb1
        go_wp2_with fail
        refine (k2.out w1).mono ?_
        rintro e w2 ⟨rfl, hb2⟩
        have hB2 := hb1.out.trans (hb2.mono hz1)
        have hz2 := hB2.size
        clear hb2
        replace hB2 := Lib.hid hB2
        go_wp2_with fail
        refine (k3.out w2 hB2.out).mono ?_
        rintro e w3 ⟨rfl, hb3⟩
        have hB3 := hB2.out.trans (hb3.mono hz2)
        have hz3 := hB3.size
        clear hb3
        replace hB3 := Lib.hid hB3
        go_wp2_with fail
        refine (k4.out w3 hB3.out).mono ?_
        rintro e w4 ⟨rfl, hb4⟩
        have hB4 := hB3.out.trans (hb4.mono hz3)
        have hz4 := hB4.size
        clear hb4
        replace hB4 := Lib.hid hB4
        go_wp2_with fail
        refine (k5.out w4).mono ?_
        rintro e w5 ⟨rfl, hb5⟩
        have hB5 := hB4.out.trans (hb5.mono hz4)
        have hz5 := hB5.size
        clear hb5
        replace hB5 := Lib.hid hB5
        go_wp2_with fail
        refine (hawk.out _).mono ?_
        rintro e w9 ⟨rfl, hb9⟩
        have hfin := hB5.out.trans (hb9.mono hz5)
        replace hfin := Lib.hid hfin
        clear hb9
        go_wp2_with fail
        go_ret
        exact ⟨rfl, hfin.out⟩
      | none =>
        rw [hp] at k1 k2
        simp only [numV] at k1 k2 k4
        replace k1 := Lib.hid k1
        replace k2 := Lib.hid k2
        replace k3 := Lib.hid k3
        replace k4 := Lib.hid k4
        replace k5 := Lib.hid k5
        replace hp := Lib.hid hp
        replace hl := Lib.hid hl
        go_enter Tryz.func3, Tryz.ntmps3
        go_wp2_with fail
        refine k1.out.mono ?_
        rintro e w1 ⟨rfl, hb1⟩
        have hz1 := hb1.size
        replace hb1 := Lib.hid hb1
        go_wp2_with fail
        refine (k2.out w1).mono ?_
        rintro e w2 ⟨rfl, hb2⟩
        have hB2 := hb1.out.trans (hb2.mono hz1)
        have hz2 := hB2.size
        clear hb2
        replace hB2 := Lib.hid hB2
        go_wp2_with fail
        refine (k3.out w2 hB2.out).mono ?_
        rintro e w3 ⟨rfl, hb3⟩
        have hB3 := hB2.out.trans (hb3.mono hz2)
        have hz3 := hB3.size
        clear hb3
        replace hB3 := Lib.hid hB3
        go_wp2_with fail
        refine (k4.out w3 hB3.out).mono ?_
        rintro e w4 ⟨rfl, hb4⟩
        have hB4 := hB3.out.trans (hb4.mono hz3)
        have hz4 := hB4.size
        clear hb4
        replace hB4 := Lib.hid hB4
        go_wp2_with fail
        refine (k5.out w4).mono ?_
        rintro e w5 ⟨rfl, hb5⟩
        have hB5 := hB4.out.trans (hb5.mono hz4)
        have hz5 := hB5.size
        clear hb5
        replace hB5 := Lib.hid hB5
        go_wp2_with fail
        refine (hawk.out _).mono ?_
        rintro e w9 ⟨rfl, hb9⟩
        have hfin := hB5.out.trans (hb9.mono hz5)
        replace hfin := Lib.hid hfin
        clear hb9
        go_wp2_with fail
        go_ret
        exact ⟨rfl, hfin.out⟩
    · have hnl' : ¬ (200 : Int) < name0.size := by omega
      have hns : name0.size ≤ 200 := by omega
      have k1 := Number_any word name0 (by omega) (by omega) w hl h6
      have k2 := RNumber_any word name0 (by omega) (by omega)
      rw [num_eq] at k2
      have k5 := RName_any word u (by omega) hu
      have hns2 : (bs (nameL (word).data.toList u)).size ≤ 1000 := by
        have e1 : (word).data.toList.length = (word).size := rfl
        have e2 := nDigits_le hu
        rw [bs_size, nameL_len]
        omega
      have k3 := fun W hb => Name_any word u (by omega) hu W (hl.below (B := w.heap.size) (w' := W) hb h6).tab
      have k4 := fun W (hb : Below w.heap.size w W) => Number_any word (bs (nameL (word).data.toList u)) (by omega) (by omega) W (hl.below (B := w.heap.size) (w' := W) hb h6) (by have := hb.size; omega)
      rw [bs_data, numP_name _ u hu] at k4
      cases hp : numP (word).data.toList (name0).data.toList with
      | some v =>
        rw [hp] at k1 k2
        simp only [numV] at k1 k2 k4
        replace k1 := Lib.hid k1
        replace k2 := Lib.hid k2
        replace k3 := Lib.hid k3
        replace k4 := Lib.hid k4
        replace k5 := Lib.hid k5
        replace hp := Lib.hid hp
        replace hl := Lib.hid hl
        go_enter Tryz.func3, Tryz.ntmps3
        go_wp2_with fail
        refine k1.out.mono ?_
        rintro e w1 ⟨rfl, hb1⟩
        have hz1 := hb1.size
        replace hb1 := Lib.hid hb1
        go_wp2_with fail
        refine (k2.out w1).mono ?_
        rintro e w2 ⟨rfl, hb2⟩
        have hB2 := hb1.out.trans (hb2.mono hz1)
        have hz2 := hB2.size
        clear hb2
        replace hB2 := Lib.hid hB2
        go_wp2_with fail
        refine (k3.out w2 hB2.out).mono ?_
        rintro e w3 ⟨rfl, hb3⟩
        have hB3 := hB2.out.trans (hb3.mono hz2)
        have hz3 := hB3.size
        clear hb3
        replace hB3 := Lib.hid hB3
        go_wp2_with fail
        refine (k4.out w3 hB3.out).mono ?_
        rintro e w4 ⟨rfl, hb4⟩
        have hB4 := hB3.out.trans (hb4.mono hz3)
        have hz4 := hB4.size
        clear hb4
        replace hB4 := Lib.hid hB4
        go_wp2_with fail
        refine (k5.out w4).mono ?_
        rintro e w5 ⟨rfl, hb5⟩
        have hB5 := hB4.out.trans (hb5.mono hz4)
        have hz5 := hB5.size
        clear hb5
        replace hB5 := Lib.hid hB5
        go_wp2_with fail
        refine (hawk.out _).mono ?_
        rintro e w9 ⟨rfl, hb9⟩
        have hfin := hB5.out.trans (hb9.mono hz5)
        replace hfin := Lib.hid hfin
        clear hb9
        go_wp2_with fail
        go_ret
        exact ⟨rfl, hfin.out⟩
      | none =>
        rw [hp] at k1 k2
        simp only [numV] at k1 k2 k4
        replace k1 := Lib.hid k1
        replace k2 := Lib.hid k2
        replace k3 := Lib.hid k3
        replace k4 := Lib.hid k4
        replace k5 := Lib.hid k5
        replace hp := Lib.hid hp
        replace hl := Lib.hid hl
        go_enter Tryz.func3, Tryz.ntmps3
        go_wp2_with fail
        refine k1.out.mono ?_
        rintro e w1 ⟨rfl, hb1⟩
        have hz1 := hb1.size
        replace hb1 := Lib.hid hb1
        go_wp2_with fail
        refine (k2.out w1).mono ?_
        rintro e w2 ⟨rfl, hb2⟩
        have hB2 := hb1.out.trans (hb2.mono hz1)
        have hz2 := hB2.size
        clear hb2
        replace hB2 := Lib.hid hB2
        go_wp2_with fail
        refine (k3.out w2 hB2.out).mono ?_
        rintro e w3 ⟨rfl, hb3⟩
        have hB3 := hB2.out.trans (hb3.mono hz2)
        have hz3 := hB3.size
        clear hb3
        replace hB3 := Lib.hid hB3
        go_wp2_with fail
        refine (k4.out w3 hB3.out).mono ?_
        rintro e w4 ⟨rfl, hb4⟩
        have hB4 := hB3.out.trans (hb4.mono hz3)
        have hz4 := hB4.size
        clear hb4
        replace hB4 := Lib.hid hB4
        go_wp2_with fail
        refine (k5.out w4).mono ?_
        rintro e w5 ⟨rfl, hb5⟩
        have hB5 := hB4.out.trans (hb5.mono hz4)
        have hz5 := hB5.size
        clear hb5
        replace hB5 := Lib.hid hB5
        go_wp2_with fail
        refine (hawk.out _).mono ?_
        rintro e w9 ⟨rfl, hb9⟩
        have hfin := hB5.out.trans (hb9.mono hz5)
        replace hfin := Lib.hid hfin
        clear hb9
        go_wp2_with fail
        go_ret
        exact ⟨rfl, hfin.out⟩
  · have hwl' : ¬ (200 : Int) < word0.size := by omega
    have hws : word0.size ≤ 200 := by omega
    by_cases hnl : 200 < name0.size
    · have hnl' : (200 : Int) < name0.size := by omega
      have hns : (name0.extract 0 200).size ≤ 200 := by rw [ByteArray.size_extract]; omega
      obtain ⟨name, hname⟩ : ∃ x, name0.extract 0 200 = x := ⟨_, rfl⟩
      rw [hname] at hns
      have k1 := Number_any word0 name (by omega) (by omega) w hl h6
      have k2 := RNumber_any word0 name (by omega) (by omega)
      rw [num_eq] at k2
      have k5 := RName_any word0 u (by omega) hu
      have hns2 : (bs (nameL (word0).data.toList u)).size ≤ 1000 := by
        have e1 : (word0).data.toList.length = (word0).size := rfl
        have e2 := nDigits_le hu
        rw [bs_size, nameL_len]
        omega
      have k3 := fun W hb => Name_any word0 u (by omega) hu W (hl.below (B := w.heap.size) (w' := W) hb h6).tab
      have k4 := fun W (hb : Below w.heap.size w W) => Number_any word0 (bs (nameL (word0).data.toList u)) (by omega) (by omega) W (hl.below (B := w.heap.size) (w' := W) hb h6) (by have := hb.size; omega)
      rw [bs_data, numP_name _ u hu] at k4
      cases hp : numP (word0).data.toList (name).data.toList with
      | some v =>
        rw [hp] at k1 k2
        simp only [numV] at k1 k2 k4
        replace k1 := Lib.hid k1
        replace k2 := Lib.hid k2
        replace k3 := Lib.hid k3
        replace k4 := Lib.hid k4
        replace k5 := Lib.hid k5
        replace hp := Lib.hid hp
        replace hl := Lib.hid hl
        go_enter Tryz.func3, Tryz.ntmps3
        go_wp2_with fail
        refine k1.out.mono ?_
        rintro e w1 ⟨rfl, hb1⟩
        have hz1 := hb1.size
        replace hb1 := Lib.hid hb1
        go_wp2_with fail
        refine (k2.out w1).mono ?_
        rintro e w2 ⟨rfl, hb2⟩
        have hB2 := hb1.out.trans (hb2.mono hz1)
        have hz2 := hB2.size
        clear hb2
        replace hB2 := Lib.hid hB2
        go_wp2_with fail
        refine (k3.out w2 hB2.out).mono ?_
        rintro e w3 ⟨rfl, hb3⟩
        have hB3 := hB2.out.trans (hb3.mono hz2)
        have hz3 := hB3.size
        clear hb3
        replace hB3 := Lib.hid hB3
        go_wp2_with fail
        refine (k4.out w3 hB3.out).mono ?_
        rintro e w4 ⟨rfl, hb4⟩
        have hB4 := hB3.out.trans (hb4.mono hz3)
        have hz4 := hB4.size
        clear hb4
        replace hB4 := Lib.hid hB4
        go_wp2_with fail
        refine (k5.out w4).mono ?_
        rintro e w5 ⟨rfl, hb5⟩
        have hB5 := hB4.out.trans (hb5.mono hz4)
        have hz5 := hB5.size
        clear hb5
        replace hB5 := Lib.hid hB5
        go_wp2_with fail
        refine (hawk.out _).mono ?_
        rintro e w9 ⟨rfl, hb9⟩
        have hfin := hB5.out.trans (hb9.mono hz5)
        replace hfin := Lib.hid hfin
        clear hb9
        go_wp2_with fail
        go_ret
        exact ⟨rfl, hfin.out⟩
      | none =>
        rw [hp] at k1 k2
        simp only [numV] at k1 k2 k4
        replace k1 := Lib.hid k1
        replace k2 := Lib.hid k2
        replace k3 := Lib.hid k3
        replace k4 := Lib.hid k4
        replace k5 := Lib.hid k5
        replace hp := Lib.hid hp
        replace hl := Lib.hid hl
        go_enter Tryz.func3, Tryz.ntmps3
        go_wp2_with fail
        refine k1.out.mono ?_
        rintro e w1 ⟨rfl, hb1⟩
        have hz1 := hb1.size
        replace hb1 := Lib.hid hb1
        go_wp2_with fail
        refine (k2.out w1).mono ?_
        rintro e w2 ⟨rfl, hb2⟩
        have hB2 := hb1.out.trans (hb2.mono hz1)
        have hz2 := hB2.size
        clear hb2
        replace hB2 := Lib.hid hB2
        go_wp2_with fail
        refine (k3.out w2 hB2.out).mono ?_
        rintro e w3 ⟨rfl, hb3⟩
        have hB3 := hB2.out.trans (hb3.mono hz2)
        have hz3 := hB3.size
        clear hb3
        replace hB3 := Lib.hid hB3
        go_wp2_with fail
        refine (k4.out w3 hB3.out).mono ?_
        rintro e w4 ⟨rfl, hb4⟩
        have hB4 := hB3.out.trans (hb4.mono hz3)
        have hz4 := hB4.size
        clear hb4
        replace hB4 := Lib.hid hB4
        go_wp2_with fail
        refine (k5.out w4).mono ?_
        rintro e w5 ⟨rfl, hb5⟩
        have hB5 := hB4.out.trans (hb5.mono hz4)
        have hz5 := hB5.size
        clear hb5
        replace hB5 := Lib.hid hB5
        go_wp2_with fail
        refine (hawk.out _).mono ?_
        rintro e w9 ⟨rfl, hb9⟩
        have hfin := hB5.out.trans (hb9.mono hz5)
        replace hfin := Lib.hid hfin
        clear hb9
        go_wp2_with fail
        go_ret
        exact ⟨rfl, hfin.out⟩
    · have hnl' : ¬ (200 : Int) < name0.size := by omega
      have hns : name0.size ≤ 200 := by omega
      have k1 := Number_any word0 name0 (by omega) (by omega) w hl h6
      have k2 := RNumber_any word0 name0 (by omega) (by omega)
      rw [num_eq] at k2
      have k5 := RName_any word0 u (by omega) hu
      have hns2 : (bs (nameL (word0).data.toList u)).size ≤ 1000 := by
        have e1 : (word0).data.toList.length = (word0).size := rfl
        have e2 := nDigits_le hu
        rw [bs_size, nameL_len]
        omega
      have k3 := fun W hb => Name_any word0 u (by omega) hu W (hl.below (B := w.heap.size) (w' := W) hb h6).tab
      have k4 := fun W (hb : Below w.heap.size w W) => Number_any word0 (bs (nameL (word0).data.toList u)) (by omega) (by omega) W (hl.below (B := w.heap.size) (w' := W) hb h6) (by have := hb.size; omega)
      rw [bs_data, numP_name _ u hu] at k4
      cases hp : numP (word0).data.toList (name0).data.toList with
      | some v =>
        rw [hp] at k1 k2
        simp only [numV] at k1 k2 k4
        replace k1 := Lib.hid k1
        replace k2 := Lib.hid k2
        replace k3 := Lib.hid k3
        replace k4 := Lib.hid k4
        replace k5 := Lib.hid k5
        replace hp := Lib.hid hp
        replace hl := Lib.hid hl
        go_enter Tryz.func3, Tryz.ntmps3
        go_wp2_with fail
        refine k1.out.mono ?_
        rintro e w1 ⟨rfl, hb1⟩
        have hz1 := hb1.size
        replace hb1 := Lib.hid hb1
        go_wp2_with fail
        refine (k2.out w1).mono ?_
        rintro e w2 ⟨rfl, hb2⟩
        have hB2 := hb1.out.trans (hb2.mono hz1)
        have hz2 := hB2.size
        clear hb2
        replace hB2 := Lib.hid hB2
        go_wp2_with fail
        refine (k3.out w2 hB2.out).mono ?_
        rintro e w3 ⟨rfl, hb3⟩
        have hB3 := hB2.out.trans (hb3.mono hz2)
        have hz3 := hB3.size
        clear hb3
        replace hB3 := Lib.hid hB3
        go_wp2_with fail
        refine (k4.out w3 hB3.out).mono ?_
        rintro e w4 ⟨rfl, hb4⟩
        have hB4 := hB3.out.trans (hb4.mono hz3)
        have hz4 := hB4.size
        clear hb4
        replace hB4 := Lib.hid hB4
        go_wp2_with fail
        refine (k5.out w4).mono ?_
        rintro e w5 ⟨rfl, hb5⟩
        have hB5 := hB4.out.trans (hb5.mono hz4)
        have hz5 := hB5.size
        clear hb5
        replace hB5 := Lib.hid hB5
        go_wp2_with fail
        refine (hawk.out _).mono ?_
        rintro e w9 ⟨rfl, hb9⟩
        have hfin := hB5.out.trans (hb9.mono hz5)
        replace hfin := Lib.hid hfin
        clear hb9
        go_wp2_with fail
        go_ret
        exact ⟨rfl, hfin.out⟩
      | none =>
        rw [hp] at k1 k2
        simp only [numV] at k1 k2 k4
        replace k1 := Lib.hid k1
        replace k2 := Lib.hid k2
        replace k3 := Lib.hid k3
        replace k4 := Lib.hid k4
        replace k5 := Lib.hid k5
        replace hp := Lib.hid hp
        replace hl := Lib.hid hl
        go_enter Tryz.func3, Tryz.ntmps3
        go_wp2_with fail
        refine k1.out.mono ?_
        rintro e w1 ⟨rfl, hb1⟩
        have hz1 := hb1.size
        replace hb1 := Lib.hid hb1
        go_wp2_with fail
        refine (k2.out w1).mono ?_
        rintro e w2 ⟨rfl, hb2⟩
        have hB2 := hb1.out.trans (hb2.mono hz1)
        have hz2 := hB2.size
        clear hb2
        replace hB2 := Lib.hid hB2
        go_wp2_with fail
        refine (k3.out w2 hB2.out).mono ?_
        rintro e w3 ⟨rfl, hb3⟩
        have hB3 := hB2.out.trans (hb3.mono hz2)
        have hz3 := hB3.size
        clear hb3
        replace hB3 := Lib.hid hB3
        go_wp2_with fail
        refine (k4.out w3 hB3.out).mono ?_
        rintro e w4 ⟨rfl, hb4⟩
        have hB4 := hB3.out.trans (hb4.mono hz3)
        have hz4 := hB4.size
        clear hb4
        replace hB4 := Lib.hid hB4
        go_wp2_with fail
        refine (k5.out w4).mono ?_
        rintro e w5 ⟨rfl, hb5⟩
        have hB5 := hB4.out.trans (hb5.mono hz4)
        have hz5 := hB5.size
        clear hb5
        replace hB5 := Lib.hid hB5
        go_wp2_with fail
        refine (hawk.out _).mono ?_
        rintro e w9 ⟨rfl, hb9⟩
        have hfin := hB5.out.trans (hb9.mono hz5)
        replace hfin := Lib.hid hfin
        clear hb9
        go_wp2_with fail
        go_ret
        exact ⟨rfl, hfin.out⟩
end Go.Proofs.YtkhicfoikkllmaaGreatDoor
