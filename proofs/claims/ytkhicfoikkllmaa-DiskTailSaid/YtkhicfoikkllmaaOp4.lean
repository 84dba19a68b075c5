/- Contracts: right. -/
import Derived.Test.YtkhicfoikkllmaaOp3
import Derived.LoopTactic
import Derived.Lib.ConvBytes
namespace Go.Proofs.Ytkhicfoikkllmaa
open Go.RowKit
set_option linter.unusedVariables false
set_option linter.unusedSimpArgs false
set_option maxRecDepth 100000 in
set_option maxHeartbeats 2000000 in
theorem right1_any (c : UInt8) (w : World) :
    Calls Try.prog 54 #[B8 c] w fun e w' => e = .returned (.bool (!okB c)) ∧ w = w' := by
  have hc := c.toNat_lt
  have e : okB c = !((decide (c.toNat < 97) || decide (122 < c.toNat)) && (decide (c.toNat < 48) || decide (57 < c.toNat)) && !(c.toNat == 46) && !(c.toNat == 45)) := by
    unfold okB
    have h1 : (c < 97) = (c.toNat < 97) := rfl
    have h2 : (122 < c) = (122 < c.toNat) := rfl
    have h3 : (c < 48) = (c.toNat < 48) := rfl
    have h4 : (57 < c) = (57 < c.toNat) := rfl
    have h5 : (c != 46) = !(c.toNat == 46) := by
      rw [bne, Bool.eq_iff_iff]; simp [← UInt8.toNat_inj]
    have h6 : (c != 45) = !(c.toNat == 45) := by
      rw [bne, Bool.eq_iff_iff]; simp [← UInt8.toNat_inj]
    rw [h5, h6]
    simp only [h1, h2, h3, h4]
  rw [e]
  clear e
  unfold B8
  generalize c.toNat = n at *
  go_enter Try.func54, Try.ntmps54
  go_wp2
  all_goals go_ret
  all_goals refine ⟨congrArg (fun b => Ending.returned (Value.bool b)) ?_, rfl⟩
  all_goals rw [Bool.eq_iff_iff]
  all_goals simp
  all_goals omega
theorem conv_bytes (w : World) (s : ByteArray) : ∃ cap W2, (convert 9 63 (.string s)).run Try.prog w = .ok (.slice (some ⟨w.heap.size, 0, none⟩) s.size cap) W2 ∧ Below w.heap.size w W2 ∧ W2.heap.size = w.heap.size + 1 ∧ ∀ j, j < s.size → W2.cell? ⟨w.heap.size, j, none⟩ = some (B8 (s.data.toList.getD j 0)) :=
  ⟨_, _, Lib.run_convert_string_bytes w 9 63 5 s Try.underlying9 Try.underlying63 Try.underlying5,
    ⟨rfl, rfl, rfl, by rw [Lib.bytesWorld_size]; omega, fun k hk => Lib.bytesWorld_at_old w _ s k hk⟩, Lib.bytesWorld_size w _ s, fun j hj => Lib.bytesWorld_cell w _ s j hj⟩
/-- The place of the first one that is not okay. -/
def badAt (l : List UInt8) : Int := match l.findIdx? (fun c => !okB c) with
  | some i => i
  | none => -1
theorem badAt_cons (c : UInt8) (l : List UInt8) : badAt (c :: l) = if okB c then (if badAt l < 0 then -1 else badAt l + 1) else 0 := by
  unfold badAt
  rw [List.findIdx?_cons]
  cases okB c
  · simp
  · simp
    cases h : List.findIdx? (fun c => !okB c) l <;> simp
    omega
theorem badAt_lt (l : List UInt8) : badAt l < 0 ↔ l.all okB = true := by
  induction l with
  | nil => simp [badAt]
  | cons c l ih =>
    rw [badAt_cons]
    cases h : okB c
    · simp [h]
    · simp only [if_true, List.all_cons, h, Bool.true_and]
      rw [← ih]
      split <;> omega
set_option maxRecDepth 100000 in
set_option maxHeartbeats 2000000 in
theorem bad_any (g cap : Nat) (l : List UInt8) (w : World) (hc : ∀ j, j < l.length → w.cell? ⟨g, j, none⟩ = some (B8 (l.getD j 0))) (hl : l.length ≤ 1073741824) :
    Calls Try.prog 58 #[.slice (some ⟨g, 0, none⟩) l.length cap, .func (.func 54) #[] #[]] w fun e w' => ∃ r : Int, e = .returned (.int .i64 r) ∧ (r < 0 ↔ l.all okB = true) ∧ w = w' := by
  replace hc := Lib.hid hc
  go_enter Try.func58, Try.ntmps58
  go_wp2_with fail
  go_loop [8] (fun i => ∃ k : Nat, k ≤ l.length ∧ i = .int .i64 k ∧ (l.take k).all okB = true) (fun i => l.length - (intOf i).toNat)
  case atStart => exact ⟨0, Nat.zero_le _, rfl, by simp⟩
  case round =>
    obtain ⟨k, hk, rfl, hall⟩ := hrel
    by_cases hlt : k < l.length
    · have hck := hc.out k hlt
      have hcx : l.getD k 0 = l[k] := by simp [hlt]
      rw [hcx] at hck
      have hts : (l.take (k + 1)).all okB = ((l.take k).all okB && okB l[k]) := by rw [List.take_succ_eq_append_getElem hlt, List.all_append]; simp
      have hr1 := right1_any l[k]
      have hno : okB l[k] = false → l.all okB = false := by
        intro h
        rw [List.all_eq_false]
        exact ⟨l[k], List.getElem_mem hlt, by simpa using h⟩
      generalize l[k] = c at *
      clear hcx
      replace hno := Lib.hid hno
      replace hts := Lib.hid hts
      replace hall := Lib.hid hall
      cases ho : okB c with
      | true =>
        rw [ho] at hr1
        replace ho := Lib.hid ho
        replace hr1 := Lib.hid hr1
        go_wp2_with (go_at_call 54; refine (hr1.out _).mono ?_; rintro e w' ⟨rfl, rfl⟩)
        go_round
        case rel => exact ⟨k + 1, by omega, by go_num, by rw [hts.out, hall.out, ho.out]; rfl⟩
        case measure => simp [intOf]; omega
      | false =>
        rw [ho] at hr1
        replace hr1 := Lib.hid hr1
        replace ho := Lib.hid ho
        go_wp2_with (go_at_call 54; refine (hr1.out _).mono ?_; rintro e w' ⟨rfl, rfl⟩)
        go_ret
        exact ⟨k, rfl, by rw [hno.out ho.out]; simp, rfl⟩
    · obtain rfl : k = l.length := by omega
      replace hall := Lib.hid hall
      go_wp2
      go_ret
      exact ⟨-1, rfl, by have := hall.out; simp at this; simp; exact this, rfl⟩
theorem contains_any (g cap : Nat) (l : List UInt8) (w : World) (hc : ∀ j, j < l.length → w.cell? ⟨g, j, none⟩ = some (B8 (l.getD j 0))) (hl : l.length ≤ 1073741824) :
    Calls Try.prog 53 #[.slice (some ⟨g, 0, none⟩) l.length cap, .func (.func 54) #[] #[]] w fun e w' => e = .returned (.bool (!l.all okB)) ∧ w = w' := by
  have hb := bad_any g cap l w hc hl
  replace hb := Lib.hid hb
  clear hc hl
  go_enter Try.func53, Try.ntmps53
  go_wp2_with fail
  refine hb.out.mono ?_
  rintro e w' ⟨r, rfl, hr, rfl⟩
  replace hr := Lib.hid hr
  go_wp2_with fail
  go_ret
  refine ⟨congrArg (fun b => Ending.returned (Value.bool b)) ?_, rfl⟩
  rw [Bool.eq_iff_iff]
  have := hr.out
  cases hq : l.all okB
  · rw [hq] at this
    have h2 : ¬ r < 0 := fun h => by have := this.1 h; cases this
    simp; omega
  · have h2 := this.2 hq
    simp; omega
set_option maxRecDepth 100000 in
set_option maxHeartbeats 2000000 in
theorem right_any (s : ByteArray) (w : World) : Calls Try.prog 46 #[.string s] w fun e w' => e = .returned (.bool (rightB s.data.toList)) ∧ Below w.heap.size w w' := by
  have hsz : s.data.toList.length = s.size := rfl
  by_cases h0 : s.data.toList = []
  · have hr : rightB s.data.toList = false := by unfold rightB; rw [h0]; rfl
    have i1 : (!s.toList.isEmpty) = false := by rw [ByteArray.toList_eq, h0]; rfl
    rw [hr]
    clear hsz
    replace h0 := Lib.hid h0
    replace hr := Lib.hid hr
    go_enter Try.func46, Try.ntmps46
    go_wp2
    go_ret
    exact ⟨rfl, Below.refl _ _⟩
  · have i1 : (!s.toList.isEmpty) = true := by rw [ByteArray.toList_eq]; simpa using h0
    by_cases h1 : s.size ≤ 24
    · have hr : rightB s.data.toList = s.data.toList.all okB := by unfold rightB; rw [hsz, show s.data.toList.isEmpty = false from by simpa using h0, decide_eq_true h1]; rfl
      have h1' : (s.size : Int) ≤ 24 := by omega
      obtain ⟨cap, W2, hrun, hbW, hzW, hcells⟩ := conv_bytes w s
      have hcon := contains_any w.heap.size cap s.data.toList W2 (fun j hj => hcells j (by omega)) (by omega)
      rw [hsz] at hcon
      rw [hr]
      clear hsz
      replace h0 := Lib.hid h0
      replace hr := Lib.hid hr
      replace hcon := Lib.hid hcon
      clear hcells hzW
      go_enter Try.func46, Try.ntmps46
      go_wp2_with fail
      refine hcon.out.mono ?_
      rintro e w' ⟨rfl, rfl⟩
      go_wp2_with fail
      go_ret
      exact ⟨by simp, hbW⟩
    · have hr : rightB s.data.toList = false := by unfold rightB; rw [hsz]; simp [h1]
      have h1' : ¬ (s.size : Int) ≤ 24 := by omega
      rw [hr]
      clear hsz
      replace h0 := Lib.hid h0
      replace hr := Lib.hid hr
      go_enter Try.func46, Try.ntmps46
      go_wp2
      go_ret
      exact ⟨rfl, Below.refl _ _⟩
end Go.Proofs.Ytkhicfoikkllmaa
