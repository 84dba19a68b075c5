/- Contracts: a nil disk, and one that New did not make. -/
import Derived.Test.YtkhicfoikkllmaaDAwk
namespace Go.Proofs.Ytkhicfoikkllmaa
open Go.RowKit
set_option linter.unusedVariables false
set_option linter.unusedSimpArgs false
def Nob (w : World) (v : Value) : Prop := Calls Try.prog 31 #[v] w fun e w' => e = .returned (.bool true) ∧ w = w'
set_option maxRecDepth 100000 in
set_option maxHeartbeats 400000 in
theorem none_zero {w : World} {b : Nat} (h : Blk w b 56 #[.int .i64 0, .map none, .map none, .slice none 0 0, .bool false, .int .i64 0]) : Nob w (.pointer (some ⟨b, 0, none⟩)) := by
  have c1 := h.cell 1
  have eN : ∀ w, (binOp .eql 53 (.map none) (.map none)).run Try.prog w = .ok (.bool true) w := fun w => run_eql_map_nil w _ _ _ _ Try.underlying53
  unfold Nob
  go_enter Try.func31, Try.ntmps31
  go_wp2
  go_ret
  exact ⟨rfl, rfl⟩
section
variable {v : Value} (w : World) (hn : Nob w v)
include hn
set_option maxRecDepth 100000 in
set_option maxHeartbeats 1000000 in
theorem power_nob : Calls Try.prog 34 #[v] w fun e w' => e = .returned (.int .i64 2) ∧ w = w' := by
  have hd := Lib.hid (hn)
  clear hn
  go_enter Try.func34, Try.ntmps34
  go_wp2_with fail
  refine hd.out.mono ?_
  rintro e w' ⟨rfl, rfl⟩
  go_wp2_with fail
  go_ret
  exact ⟨rfl, rfl⟩
set_option maxRecDepth 100000 in
set_option maxHeartbeats 1000000 in
theorem file_nob (a : ByteArray) : Calls Try.prog 32 #[v, .string a] w fun e w' => e = .returned (.tuple #[.pointer none, .int .i64 2]) ∧ w = w' := by
  have hd := Lib.hid (power_nob w hn)
  clear hn
  go_enter Try.func32, Try.ntmps32
  go_wp2_with fail
  refine hd.out.mono ?_
  rintro e w' ⟨rfl, rfl⟩
  go_wp2_with fail
  go_ret2
  exact ⟨rfl, rfl⟩
set_option maxRecDepth 100000 in
set_option maxHeartbeats 1000000 in
theorem Create_nob (a : ByteArray) : Calls Try.prog 25 #[v, .string a] w fun e w' => e = .returned (.int .i64 2) ∧ w = w' := by
  have hd := Lib.hid (file_nob w hn a)
  clear hn
  go_enter Try.func25, Try.ntmps25
  go_wp2_with fail
  refine hd.out.mono ?_
  rintro e w' ⟨rfl, rfl⟩
  go_wp2_with fail
  go_ret
  exact ⟨rfl, rfl⟩
set_option maxRecDepth 100000 in
set_option maxHeartbeats 1000000 in
theorem Append_nob (a b : ByteArray) : Calls Try.prog 26 #[v, .string a, .string b] w fun e w' => e = .returned (.int .i64 2) ∧ w = w' := by
  have hd := Lib.hid (file_nob w hn a)
  clear hn
  go_enter Try.func26, Try.ntmps26
  go_wp2_with fail
  refine hd.out.mono ?_
  rintro e w' ⟨rfl, rfl⟩
  go_wp2_with fail
  go_ret
  exact ⟨rfl, rfl⟩
set_option maxRecDepth 100000 in
set_option maxHeartbeats 1000000 in
theorem Sync_nob (a : ByteArray) : Calls Try.prog 15 #[v, .string a] w fun e w' => e = .returned (.int .i64 2) ∧ w = w' := by
  have hd := Lib.hid (file_nob w hn a)
  clear hn
  go_enter Try.func15, Try.ntmps15
  go_wp2_with fail
  refine hd.out.mono ?_
  rintro e w' ⟨rfl, rfl⟩
  go_wp2_with fail
  go_ret
  exact ⟨rfl, rfl⟩
set_option maxRecDepth 100000 in
set_option maxHeartbeats 1000000 in
theorem Rename_nob (a b : ByteArray) : Calls Try.prog 27 #[v, .string a, .string b] w fun e w' => e = .returned (.int .i64 2) ∧ w = w' := by
  have hd := Lib.hid (file_nob w hn a)
  clear hn
  go_enter Try.func27, Try.ntmps27
  go_wp2_with fail
  refine hd.out.mono ?_
  rintro e w' ⟨rfl, rfl⟩
  go_wp2_with fail
  go_ret
  exact ⟨rfl, rfl⟩
set_option maxRecDepth 100000 in
set_option maxHeartbeats 1000000 in
theorem Delete_nob (a : ByteArray) : Calls Try.prog 28 #[v, .string a] w fun e w' => e = .returned (.int .i64 2) ∧ w = w' := by
  have hd := Lib.hid (file_nob w hn a)
  clear hn
  go_enter Try.func28, Try.ntmps28
  go_wp2_with fail
  refine hd.out.mono ?_
  rintro e w' ⟨rfl, rfl⟩
  go_wp2_with fail
  go_ret
  exact ⟨rfl, rfl⟩
set_option maxRecDepth 100000 in
set_option maxHeartbeats 1000000 in
theorem Read_nob (a : ByteArray) : Calls Try.prog 17 #[v, .string a] w fun e w' => e = .returned (.tuple #[.string ⟨#[]⟩, .int .i64 2]) ∧ w = w' := by
  have hd := Lib.hid (file_nob w hn a)
  clear hn
  go_enter Try.func17, Try.ntmps17
  go_wp2_with fail
  refine hd.out.mono ?_
  rintro e w' ⟨rfl, rfl⟩
  go_wp2_with fail
  go_ret2
  exact ⟨rfl, rfl⟩
set_option maxRecDepth 100000 in
set_option maxHeartbeats 1000000 in
theorem DirSync_nob : Calls Try.prog 16 #[v] w fun e w' => e = .returned (.int .i64 2) ∧ w = w' := by
  have hd := Lib.hid (power_nob w hn)
  clear hn
  go_enter Try.func16, Try.ntmps16
  go_wp2_with fail
  refine hd.out.mono ?_
  rintro e w' ⟨rfl, rfl⟩
  go_wp2_with fail
  go_ret
  exact ⟨rfl, rfl⟩
set_option maxRecDepth 100000 in
set_option maxHeartbeats 1000000 in
theorem List_nob : Calls Try.prog 21 #[v] w fun e w' => e = .returned (.slice none 0 0) ∧ w = w' := by
  have hd := Lib.hid (hn)
  clear hn
  go_enter Try.func21, Try.ntmps21
  go_wp2_with fail
  refine hd.out.mono ?_
  rintro e w' ⟨rfl, rfl⟩
  go_wp2_with fail
  go_ret
  exact ⟨rfl, rfl⟩
set_option maxRecDepth 100000 in
set_option maxHeartbeats 1000000 in
theorem Used_nob : Calls Try.prog 29 #[v] w fun e w' => e = .returned (.int .i64 0) ∧ w = w' := by
  have hd := Lib.hid (hn)
  clear hn
  go_enter Try.func29, Try.ntmps29
  go_wp2_with fail
  refine hd.out.mono ?_
  rintro e w' ⟨rfl, rfl⟩
  go_wp2_with fail
  go_ret
  exact ⟨rfl, rfl⟩
set_option maxRecDepth 100000 in
set_option maxHeartbeats 1000000 in
theorem Room_nob : Calls Try.prog 30 #[v] w fun e w' => e = .returned (.int .i64 0) ∧ w = w' := by
  have hd := Lib.hid (hn)
  clear hn
  go_enter Try.func30, Try.ntmps30
  go_wp2_with fail
  refine hd.out.mono ?_
  rintro e w' ⟨rfl, rfl⟩
  go_wp2_with fail
  go_ret
  exact ⟨rfl, rfl⟩
set_option maxRecDepth 100000 in
set_option maxHeartbeats 1000000 in
theorem Fused_nob : Calls Try.prog 24 #[v] w fun e w' => e = .returned (.int .i64 0) ∧ w = w' := by
  have hd := Lib.hid (hn)
  clear hn
  go_enter Try.func24, Try.ntmps24
  go_wp2_with fail
  refine hd.out.mono ?_
  rintro e w' ⟨rfl, rfl⟩
  go_wp2_with fail
  go_ret
  exact ⟨rfl, rfl⟩
set_option maxRecDepth 100000 in
set_option maxHeartbeats 1000000 in
theorem Down_nob : Calls Try.prog 23 #[v] w fun e w' => e = .returned (.bool true) ∧ w = w' := by
  have hd := Lib.hid (hn)
  clear hn
  go_enter Try.func23, Try.ntmps23
  go_wp2_with fail
  refine hd.out.mono ?_
  rintro e w' ⟨rfl, rfl⟩
  go_wp2_with fail
  go_ret
  exact ⟨rfl, rfl⟩
set_option maxRecDepth 100000 in
set_option maxHeartbeats 1000000 in
theorem Start_nob : Calls Try.prog 13 #[v] w fun e w' => e = .returned (.tuple #[]) ∧ w = w' := by
  have hd := Lib.hid (hn)
  clear hn
  go_enter Try.func13, Try.ntmps13
  go_wp2_with fail
  refine hd.out.mono ?_
  rintro e w' ⟨rfl, rfl⟩
  go_wp2_with fail
  go_end0
  exact ⟨rfl, rfl⟩
set_option maxRecDepth 100000 in
set_option maxHeartbeats 1000000 in
theorem Fuse_nob (n : Int) : Calls Try.prog 14 #[v, .int .i64 n] w fun e w' => e = .returned (.tuple #[]) ∧ w = w' := by
  have hd := Lib.hid (hn)
  clear hn
  go_enter Try.func14, Try.ntmps14
  go_wp2_with fail
  refine hd.out.mono ?_
  rintro e w' ⟨rfl, rfl⟩
  go_wp2_with fail
  go_end0
  exact ⟨rfl, rfl⟩
set_option maxRecDepth 100000 in
set_option maxHeartbeats 1000000 in
theorem Twin_nob : Calls Try.prog 20 #[v] w fun e w' => e = .returned (.pointer none) ∧ w = w' := by
  have hd := Lib.hid (hn)
  clear hn
  go_enter Try.func20, Try.ntmps20
  go_wp2_with fail
  refine hd.out.mono ?_
  rintro e w' ⟨rfl, rfl⟩
  go_wp2_with fail
  go_ret
  exact ⟨rfl, rfl⟩
set_option maxRecDepth 100000 in
set_option maxHeartbeats 1000000 in
theorem Same_nob (u : Value) (b : Bool) (hu : Calls Try.prog 31 #[u] w fun e w' => e = .returned (.bool b) ∧ w = w') : Calls Try.prog 22 #[v, u] w fun e w' => e = .returned (.bool b) ∧ w = w' := by
  have hd := Lib.hid hn
  have hv := Lib.hid hu
  clear hn hu
  go_enter Try.func22, Try.ntmps22
  go_wp2_with fail
  refine hd.out.mono ?_
  rintro e w' ⟨rfl, rfl⟩
  go_wp2_with fail
  refine hd.out.mono ?_
  rintro e w' ⟨rfl, rfl⟩
  go_wp2_with fail
  refine hv.out.mono ?_
  rintro e w' ⟨rfl, rfl⟩
  go_wp2_with fail
  go_ret
  exact ⟨rfl, rfl⟩
omit hn in
set_option maxRecDepth 100000 in
set_option maxHeartbeats 1000000 in
theorem Crash_nob (hn : ∀ w', Below w.heap.size w w' → Nob w' v) (n : Int) : Calls Try.prog 19 #[v, .agg #[.int .i64 n, .slice none 0 0, .slice none 0 0]] w fun e w' => e = .returned (.tuple #[]) ∧ Below w.heap.size w w' := by
  have hal : Below w.heap.size w (w.alloc (.cells #[.int .i64 n, .slice none 0 0, .slice none 0 0] 26)) := (Below.refl _ _).alloc (Nat.le_refl _) _
  have hd := Lib.hid (hn _ hal)
  replace hal := Lib.hid hal
  clear hn
  go_enter Try.func19, Try.ntmps19
  go_wp2_with fail
  refine hd.out.mono ?_
  rintro e w' ⟨rfl, rfl⟩
  go_wp2_with fail
  refine bodyPost_ret (results_none (by kernel_rfl) _ _ _) rfl ?_
  exact ⟨rfl, hal.out⟩
end
end Go.Proofs.Ytkhicfoikkllmaa
