/- Contracts of package num: ReadBig. -/
import Derived.Test.YtbaobjkhdieapaaDoorNum2
import Derived.Lib.ConvBytes
import Derived.Laws.Bits64
import Derived.Laws.BitsAll
import Derived.Laws.BitsAllLaws
namespace Go.Proofs.YtbaobjkhdieapaaDoor
open Go.RowKit
set_option linter.unusedVariables false
set_option linter.unusedSimpArgs false

/-- What '[]byte(s)' does. -/
theorem conv_bytes (w : World) (s : ByteArray) : ∃ cap W2, (convert 9 34 (.string s)).run Tryd.prog w = .ok (.slice (some ⟨w.heap.size, 0, none⟩) s.size cap) W2 ∧ Below w.heap.size w W2 ∧ W2.heap.size = w.heap.size + 1 ∧ ∀ j, j < s.size → W2.cell? ⟨w.heap.size, j, none⟩ = some (B8 (s.data.toList.getD j 0)) :=
  ⟨_, _, Lib.run_convert_string_bytes w 9 34 5 s Tryd.underlying9 Tryd.underlying34 Tryd.underlying5,
    ⟨rfl, rfl, rfl, by rw [Lib.bytesWorld_size]; omega, fun k hk => Lib.bytesWorld_at_old w _ s k hk⟩, Lib.bytesWorld_size w _ s, fun j hj => Lib.bytesWorld_cell w _ s j hj⟩

def outV (o : Option Nat) : Value := .tuple #[.int .u64 ((o.getD 0 : Nat) : Int), .bool o.isSome]
set_option maxRecDepth 100000 in
set_option maxHeartbeats 2000000 in
theorem ReadBig_any (s : ByteArray) (width : Int) (w : World) (hs : s.size ≤ maxLen) (h0 : -9223372036854775808 ≤ width) (h1 : width ≤ 9223372036854775807) :
    Calls Tryd.prog 39 #[.string s, .int .i64 width] w fun e w' => e = .returned (outV (readBig s.data.toList width)) ∧ Below w.heap.size w w' := by
  unfold maxLen at hs
  have hl := dlen s
  by_cases hbad : width < 1 ∨ 8 < width ∨ (s.size : Int) < width
  · have hr : readBig s.data.toList width = none := by unfold readBig; rw [if_pos (by rw [hl]; exact hbad)]
    replace hr := Lib.hid hr
    clear hl
    go_enter Tryd.func39, Tryd.ntmps39
    go_wp2
    all_goals go_ret2
    all_goals exact ⟨by rw [hr.out]; rfl, Below.refl _ _⟩
  · have hr : readBig s.data.toList width = some (beV (s.data.toList.take width.toNat)) := by unfold readBig; rw [if_neg (by rw [hl]; exact hbad)]
    replace hr := Lib.hid hr
    obtain ⟨m, rfl⟩ : ∃ m : Nat, width = m := ⟨width.toNat, by omega⟩
    have hm1 : 1 ≤ m := by omega
    have hm8 : m ≤ 8 := by omega
    have hms : m ≤ s.size := by omega
    clear hbad hl
    obtain ⟨cap, W2, hrun, hbW, hzW, hcells⟩ := conv_bytes w (s.extract 0 m)
    go_enter Tryd.func39, Tryd.ntmps39
    go_wp2_with fail
    have hsz : (s.extract 0 m).size = m := by simp; omega
    have hdl : (s.extract 0 m).data.toList = s.data.toList.take m := by simp
    go_loopw [4, 25] (fun v i wr => ∃ (k : Nat), k ≤ m ∧ i = .int .i64 k ∧ v = .int .u64 (beV (s.data.toList.take k)) ∧ W2 = wr) (fun _ i _ => m - (intOf i).toNat)
    case atStart => exact ⟨0, Nat.zero_le _, rfl, rfl, rfl⟩
    case round =>
      obtain ⟨k, hk, rfl, rfl, rfl⟩ := hrel
      by_cases hlt : k < m
      · have hc := hcells k (by omega)
        rw [hdl] at hc
        have hks : k < s.data.toList.length := by rw [dlen]; omega
        have hsn : beV (s.data.toList.take (k + 1)) = beV (s.data.toList.take k) * 256 + (s.data.toList[k]).toNat := by
          rw [List.take_succ_eq_append_getElem hks, beV_snoc]
        have hcc : (s.data.toList.take m).getD k 0 = s.data.toList[k] := by
          rw [List.getD_eq_getElem?_getD, List.getElem?_take_of_lt hlt, List.getElem?_eq_getElem hks]; rfl
        rw [hcc] at hc
        have hlt2 := beV_lt (s.data.toList.take k)
        rw [List.length_take, Nat.min_eq_left (by omega)] at hlt2
        have hp : 256 ^ k ≤ 256 ^ 7 := Nat.pow_le_pow_right (by omega) (by omega)
        have hx : beV (s.data.toList.take k) < 72057594037927936 := by omega
        have hy := (s.data.toList[k]).toNat_lt
        clear hp hlt2 hcells hcc
        replace hsn := Lib.hid hsn
        generalize beV (s.data.toList.take k) = x at *
        generalize s.data.toList[k] = c at *
        unfold B8 at hc
        clear hsz hdl
        go_wp2_with fail
        refine ⟨⟨k + 1, by omega, by go_num, congrArg (Value.int .u64) ?_, trivial⟩, by simp [intOf]; omega⟩
        rw [hsn.out, u64_or _ _ (by omega) (by omega) (by omega) (by omega)]
        rw [show ((x : Int) * 256).toNat = x * 256 from by omega, show ((c.toNat : Nat) : Int).toNat = c.toNat from by omega, or_byte x _ (by omega)]
      · obtain rfl : k = m := by omega
        go_wp2_with fail
        go_ret2
        exact ⟨by rw [hr.out]; rfl, hbW⟩
theorem ReadBig_none (s : ByteArray) (width : Int) (w : World) (hs : s.size ≤ maxLen) (h0 : -9223372036854775808 ≤ width) (h1 : width ≤ 9223372036854775807) (h : readBig s.data.toList width = none) :
    Calls Tryd.prog 39 #[.string s, .int .i64 width] w fun e w' => e = .returned (.tuple #[.int .u64 0, .bool false]) ∧ Below w.heap.size w w' := by
  have := ReadBig_any s width w hs h0 h1
  rw [h] at this
  exact this
theorem ReadBig_some (s : ByteArray) (width : Int) (n : Nat) (w : World) (hs : s.size ≤ maxLen) (h0 : -9223372036854775808 ≤ width) (h1 : width ≤ 9223372036854775807) (h : readBig s.data.toList width = some n) :
    Calls Tryd.prog 39 #[.string s, .int .i64 width] w fun e w' => e = .returned (.tuple #[.int .u64 n, .bool true]) ∧ Below w.heap.size w w' := by
  have := ReadBig_any s width w hs h0 h1
  rw [h] at this
  exact this
end Go.Proofs.YtbaobjkhdieapaaDoor
