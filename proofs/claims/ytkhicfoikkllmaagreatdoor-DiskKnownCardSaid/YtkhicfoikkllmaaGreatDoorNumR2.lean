/- Contracts: the document's Number. -/
import Derived.Test.YtkhicfoikkllmaaGreatDoorNumR
namespace Go.Proofs.YtkhicfoikkllmaaGreatDoor
open Go.RowKit Go.Lib Go.Sort
set_option linter.unusedVariables false
set_option linter.unusedSimpArgs false
theorem byte_at {s : ByteArray} {c : UInt8} {i : Nat} (h : s.data.toList[i]? = some c) : ∃ hi : i < s.size, s[i] = c := by
  rw [Array.getElem?_toList] at h
  obtain ⟨hi, e⟩ := Array.getElem?_eq_some_iff.1 h
  exact ⟨hi, e⟩
theorem valW_snoc (l : List UInt8) (c : UInt8) : valW (l ++ [c]) = (10 * valW l + (c.toNat - 48)) % 18446744073709551616 := by
  unfold valW
  rw [List.foldl_append]
  rfl
set_option maxRecDepth 100000 in
set_option maxHeartbeats 4000000 in
theorem RNumber_any (word name : ByteArray) (hw : word.size ≤ 1048576) (hn : name.size ≤ 2097152) (w : World) :
    Calls Tryz.prog 6 #[.string word, .string name] w fun e w' => e = .returned (numV (numR word.data.toList name.data.toList)) ∧ Below w.heap.size w w' := by
  have ewl : word.data.toList.length = word.size := rfl
  have enl : name.data.toList.length = name.size := rfl
  by_cases h1 : name.size < word.size + 9
  · have h1' : (name.size : Int) < (word.size : Int) + 9 := by omega
    have hR : numR word.data.toList name.data.toList = none := by unfold numR; rw [if_pos (by omega)]
    rw [hR]
    go_enter Tryz.func6, Tryz.ntmps6
    go_wp2_with fail
    go_ret2
    exact ⟨rfl, Below.refl _ _⟩
  have h1' : ¬ (name.size : Int) < (word.size : Int) + 9 := by omega
  by_cases h2 : word.size + 21 < name.size
  · have h2' : (word.size : Int) + 21 < (name.size : Int) := by omega
    have hR : numR word.data.toList name.data.toList = none := by unfold numR; rw [if_pos (by omega)]
    rw [hR]
    go_enter Tryz.func6, Tryz.ntmps6
    go_wp2_with fail
    go_ret2
    exact ⟨rfl, Below.refl _ _⟩
  have h2' : ¬ (word.size : Int) + 21 < (name.size : Int) := by omega
  obtain ⟨t, ht⟩ : ∃ t, name.data.toList.drop (word.data.toList.length + 1) = t := ⟨_, rfl⟩
  have htl : t.length = name.size - (word.size + 1) := by rw [← ht, List.length_drop]; omega
  have hR : numR word.data.toList name.data.toList = if t.all digB then (if nameL word.data.toList (valW t) = name.data.toList then some (valW t) else none) else none := by
    unfold numR
    rw [if_neg (by omega), ht]
  obtain ⟨R, hRd⟩ : ∃ R, numR word.data.toList name.data.toList = R := ⟨_, rfl⟩
  rw [hRd] at hR ⊢
  clear hRd
  replace hR := Lib.hid hR
  have hnm := RName_any word (valW t) hw (valW_lt t)
  replace hnm := Lib.hid hnm
  replace ht := Lib.hid ht
  replace htl := Lib.hid htl
  go_enter Tryz.func6, Tryz.ntmps6
  go_wp2_with fail
  go_loopw [6, 7] (fun nv iv wr => ∃ k : Nat, k ≤ t.length ∧ iv = .int .i64 ((word.size : Int) + 1 + k) ∧ nv = .int .u64 (valW (t.take k) : Nat) ∧ (t.take k).all digB = true ∧ w = wr) (fun _ iv _ => (name.size + 1 - (intOf iv)).toNat)
  case atStart => exact ⟨0, Nat.zero_le _, by simp, rfl, rfl, rfl⟩
  case round =>
    obtain ⟨k, hk, rfl, rfl, hall, rfl⟩ := hrel
    have htl2 := htl.out
    by_cases hlt : k < t.length
    · have hlt' : (word.size : Int) + 1 + k < name.size := by omega
      have hget : name.data.toList[word.size + 1 + k]? = some t[k] := by
        have := List.getElem?_drop (xs := name.data.toList) (i := word.data.toList.length + 1) (j := k)
        rw [ht.out, ewl] at this
        rw [← this, List.getElem?_eq_getElem hlt]
      have htk : t.take (k + 1) = t.take k ++ [t[k]] := by rw [List.take_add_one, List.getElem?_eq_getElem hlt]; rfl
      have hin : t[k] ∈ t := List.getElem_mem hlt
      generalize t[k] = c at *
      have hix : (Instr.index 9 (.string name) (.int .i64 ((word.size : Int) + 1 + k))).run Tryz.prog w = .ok (.int .u8 (c.toNat : Nat)) w := by
        rw [run_index_string w 9 name .i64 _ Tryz.underlying9]
        obtain ⟨hi, e⟩ := byte_at hget
        have e1 : ((word.size : Int) + 1 + k).toNat = word.size + 1 + k := by omega
        rw [dif_pos ⟨by omega, by omega⟩]
        simp only [e1, e]
      have hval := valW_snoc (t.take k) c
      rw [← htk] at hval
      have hc256 := UInt8.toNat_lt c
      have hv64 := valW_lt (t.take k)
      obtain ⟨v, hvd⟩ : ∃ v, valW (t.take k) = v := ⟨_, rfl⟩
      rw [hvd] at hval hv64 ⊢
      replace htk := Lib.hid htk
      replace hin := Lib.hid hin
      replace hget := Lib.hid hget
      replace hvd := Lib.hid hvd
      by_cases hd : digB c = true
      · have hd2 : 48 ≤ c.toNat ∧ c.toNat ≤ 57 := by unfold digB at hd; exact of_decide_eq_true hd
        have hlo' : ¬ (c.toNat : Int) < 48 := by omega
        have hhi' : ¬ (57 : Int) < (c.toNat : Int) := by omega
        have hall2 : (t.take (k + 1)).all digB = true := by rw [htk.out, List.all_append, hall]; simp [hd]
        replace hall2 := Lib.hid hall2
        replace hall := Lib.hid hall
        replace hd := Lib.hid hd
        replace hval := Lib.hid hval
        go_wp2_with fail
        refine ⟨⟨k + 1, by omega, congrArg (Value.int .i64) (by omega), congrArg (Value.int .u64) ?_, hall2.out, trivial⟩, ?_⟩
        · rw [hval.out, IntKind.wrap_u64, IntKind.wrap_u64]
          omega
        · simp only [intOf]
          omega
      · have hRn : R = none := by
          rw [hR.out, if_neg]
          intro h
          exact hd (List.all_eq_true.1 h c hin.out)
        subst hRn
        replace hall := Lib.hid hall
        replace hval := Lib.hid hval
        by_cases hlo : c.toNat < 48
        · have hlo' : (c.toNat : Int) < 48 := by omega
          replace hd := Lib.hid hd
          go_wp2_with fail
          go_ret2
          exact ⟨rfl, Below.refl _ _⟩
        · have hhi : (57 : Int) < (c.toNat : Int) := by
            have : ¬ (48 ≤ c.toNat ∧ c.toNat ≤ 57) := fun h => hd (decide_eq_true h)
            omega
          have hlo' : ¬ (c.toNat : Int) < 48 := by omega
          replace hd := Lib.hid hd
          go_wp2_with fail
          go_ret2
          exact ⟨rfl, Below.refl _ _⟩
    · obtain rfl : k = t.length := by omega
      have hlt' : ¬ (word.size : Int) + 1 + (t.length : Int) < name.size := by omega
      rw [List.take_length] at hall ⊢
      have hR2 : R = if nameL word.data.toList (valW t) = name.data.toList then some (valW t) else none := by rw [hR.out, if_pos hall]
      clear hR
      have hv64 := valW_lt t
      generalize valW t = v at *
      have htl3 : name.toList = name.data.toList := by rw [ByteArray.toList_eq]
      by_cases he : nameL word.data.toList v = name.data.toList
      · rw [if_pos he] at hR2
        subst hR2
        have he2 : (bs (nameL word.data.toList v)).toList = name.toList := by rw [bs_toList, htl3]; exact he
        replace htl3 := Lib.hid htl3
        replace he := Lib.hid he
        replace hall := Lib.hid hall
        go_wp2_with fail
        refine (hnm.out _).mono ?_
        rintro e w2 ⟨rfl, hb2⟩
        replace hb2 := Lib.hid hb2
        go_wp2_with fail
        go_ret2
        exact ⟨rfl, hb2.out⟩
      · rw [if_neg he] at hR2
        subst hR2
        have he2 : ¬ (bs (nameL word.data.toList v)).toList = name.toList := by rw [bs_toList, htl3]; exact he
        have he3 : ((bs (nameL word.data.toList v)).toList == name.toList) = false := by simpa using he2
        replace htl3 := Lib.hid htl3
        replace he := Lib.hid he
        replace hall := Lib.hid hall
        go_wp2_with fail
        refine (hnm.out _).mono ?_
        rintro e w2 ⟨rfl, hb2⟩
        replace hb2 := Lib.hid hb2
        go_wp2_with fail
        go_ret2
        exact ⟨rfl, hb2.out⟩
end Go.Proofs.YtkhicfoikkllmaaGreatDoor
