/- OnceKnown returns true. -/
import Derived.Test.YtbaobjkhdieapaaDoorAwk
namespace Go.Proofs.YtbaobjkhdieapaaDoor
open Go.RowKit
set_option linter.unusedVariables false
set_option linter.unusedSimpArgs false

theorem ShelfAt.lit (w : World) (l : List Op3) (cs : Array Value) (hcs : cs.toList = opsV l) (t : TypeId) (c : Nat) : ShelfAt ((w.alloc (.cells cs t)).alloc (.cells #[.slice (some ⟨w.heap.size, 0, none⟩) l.length c, .int .i64 0] 30)) (w.heap.size + 1) (some ⟨w.heap.size, 0, none⟩) l c 0 := by
  refine ⟨?_, ⟨opsV_len l, fun _ => ⟨_, rfl, by simp; omega, fun j u hu => ?_⟩⟩, fun ad e => ?_⟩
  · have := heap_alloc_new (w.alloc (.cells cs t)) (.cells #[.slice (some ⟨w.heap.size, 0, none⟩) l.length c, .int .i64 0] 30)
    simpa using this
  · rw [World.cell?_alloc_lt _ _ _ (by rw [block_of_add]; simp)]
    have hcell : ∀ i : Nat, (w.alloc (.cells cs t)).cell? ⟨w.heap.size, i, none⟩ = cs[i]? := fun i => World.cell?_alloc_new _ _ _ _
    have e1 : (⟨w.heap.size, 0, none⟩ : Addr).add j = ⟨w.heap.size, j, none⟩ := by cases j <;> simp [Addr.add]
    rw [e1, hcell]
    rw [← hcs] at hu
    simpa using hu
  · injection e with e
    subst e
    show w.heap.size ≠ w.heap.size + 1
    omega

set_option maxRecDepth 100000 in
set_option maxHeartbeats 2000000 in
theorem Ask_nil (c n : Int) (w : World) :
    Calls Tryd.prog 9 #[.nilIface, .int .u8 c, .int .u64 n] w fun e w' => e = .returned (.tuple #[.string ⟨#[]⟩, .bool false, .int .i64 2]) ∧ w' = w := by
  go_enter Tryd.func9, Tryd.ntmps9
  go_wp2
  go_ret3
  exact ⟨rfl, rfl⟩

def knownL : List Op3 := [keepOp 9 5 [120], ⟨bs (clientL 7), ⟨#[5]⟩, false⟩, ⟨bs (clientL 6), ⟨#[5, 1, 121]⟩, true⟩]
theorem k8 : askL knownL 8 0 = (⟨#[]⟩, false, 0) := by kernel_rfl
theorem k7 : askL knownL 7 5 = (⟨#[]⟩, false, 0) := by kernel_rfl
theorem k6 : askL knownL 6 4 = (⟨#[]⟩, false, 0) := by kernel_rfl
theorem s8 : (getL knownL (bs (clientL 8))).1.size = 0 := by kernel_rfl
theorem s7 : (getL knownL (bs (clientL 7))).1.size = 1 := by kernel_rfl
theorem s6 : (getL knownL (bs (clientL 6))).1.size = 3 := by kernel_rfl
theorem key9 : bs (clientL 9) = ⟨#[1, 7, 1, 9]⟩ := by kernel_rfl
theorem val9 : bs (valueL 5 [120]) = ⟨#[5, 1, 120]⟩ := by kernel_rfl
def zz : Array Value := madeCells (Value.int .u8 0).cells 9000
def sz : ByteArray := strOfNums (List.replicate 9000 0)
theorem zz_cell (i : Nat) (h : i < 9000) : zz[i]? = some (.int .u8 0) := by
  unfold zz madeCells
  simp [Value.cells, h, Nat.mod_one]
theorem mkzz (w : World) : (Instr.makeSlice 34 (.int .i64 9000) (.int .i64 9000)).run Tryd.prog w = .ok (.slice (some ⟨w.heap.size, 0, none⟩) 9000 9000) (w.alloc (.cells zz 5)) := by
  obtain ⟨i0, hi, hz0, hz1, hz2⟩ := info_parts u8_info
  have h := run_make (P := Tryd.prog) w 34 5 i0 (.int .u8 0) Tryd.underlying34 hi hz0 .i64 .i64 9000 9000 (by omega) (by omega) (by rw [hz2]; decide) (by omega)
  rw [hz1] at h
  exact h
theorem cvzz (w : World) : (convert 34 9 (.slice (some ⟨w.heap.size, 0, none⟩) 9000 9000)).run Tryd.prog (w.alloc (.cells zz 5)) = .ok (.string sz) (w.alloc (.cells zz 5)) := by
  refine run_convert_bytes_arg (P := Tryd.prog) _ 34 5 Tryd.underlying34 Tryd.underlying5 w.heap.size 0 9000 9000 (List.replicate 9000 0) List.length_replicate (fun i hi => ?_) 9 Tryd.underlying9
  have e : (List.replicate 9000 (0 : Int)).getD i 0 = 0 := by rw [List.getD_eq_getElem?_getD, List.getElem?_replicate]; split <;> rfl
  rw [e, Nat.zero_add, World.cell?_alloc_new, zz_cell i hi]
theorem sz_size : sz.size = 9000 := by kernel_rfl

theorem field1 (w : World) (a b : ByteArray) (g : Bool) : (Instr.field 24 (.agg #[.string a, .string b, .bool g]) 1).run Tryd.prog w = .ok (.string b) w := by kernel_rfl

set_option maxRecDepth 100000 in
set_option maxHeartbeats 8000000 in
theorem known_walk (w : World) :
    Calls Tryd.prog 3 #[] w fun e w' => e = .returned (.bool true) ∧ Below w.heap.size w w' := by
  have hmk := mkzz
  have hcv := cvzz
  have hfl := field1
  have keep9 : ∀ w, Calls Tryd.prog 7 #[.int .u8 9, .int .u64 5, .string ⟨#[120]⟩] w fun e w' => e = .returned (.agg #[.string (bs (clientL 9)), .string (bs (valueL 5 [120])), .bool false]) ∧ Below w.heap.size w w' := fun w => Keep_any 9 5 ⟨#[120]⟩ w (by omega) (by omega) (by omega) (by omega) (by simp [ByteArray.size])
  have keep9' : ∀ w, Calls Tryd.prog 7 #[.int .u8 9, .int .u64 5, .string ⟨#[120]⟩] w fun e w' => e = .returned (.agg #[.string ⟨#[1, 7, 1, 9]⟩, .string ⟨#[5, 1, 120]⟩, .bool false]) ∧ Below w.heap.size w w' := by
    intro w
    have := keep9 w
    rwa [key9, val9] at this
  have keepz : ∀ w, Calls Tryd.prog 7 #[.int .u8 0, .int .u64 18446744073709551615, .string sz] w fun e w' => e = .returned (.agg #[.string (bs (clientL 0)), .string (bs (valueL 18446744073709551615 (sz.data.toList.take 480))), .bool false]) ∧ Below w.heap.size w w' := fun w => Keep_any 0 18446744073709551615 sz w (by omega) (by omega) (by omega) (by omega) (by rw [sz_size]; omega)
  have hv : (bs (valueL 18446744073709551615 (sz.data.toList.take 480))).size ≤ 498 := by rw [bs_size]; exact valueL_len _ _ (by rw [List.length_take]; omega)
  replace keep9' := Lib.hid keep9'
  replace keepz := Lib.hid keepz
  generalize valueL 18446744073709551615 (sz.data.toList.take 480) = vz at *
  have ask : ∀ (c n : Int) (r : ByteArray × Bool × Int) (b : Nat) (A : Option Addr) (asked : Int) (w : World), askL knownL c.toNat n.toNat = r → (getL knownL (bs (clientL c.toNat))).1.size ≤ 1073741824 → ShelfAt w b A knownL 3 asked → 0 ≤ asked → asked ≤ 100 → 0 ≤ c → c ≤ 255 → 0 ≤ n → n ≤ 100 → Calls Tryd.prog 9 #[.iface 22 (.pointer (some ⟨b, 0, none⟩)), .int .u8 c, .int .u64 n] w fun e w' => e = .returned (.tuple #[.string r.1, .bool r.2.1, .int .i64 r.2.2]) ∧ Below w.heap.size (w.setCell ⟨b, 1, none⟩ (.int .i64 (asked + 1))) w' := by
    intro c n r b A asked w hr hsz hs h0 h1 c0 c1 n0 n1
    subst hr
    exact Ask_any b A _ 3 asked c n w hs (by simp [knownL]) h0 (by omega) c0 c1 n0 (by omega) hsz
  replace ask := Lib.hid ask
  go_enter Tryd.func3, Tryd.ntmps3
  go_wp2_with fail
  refine (keep9 w).mono ?_
  rintro e w1 ⟨rfl, hb1⟩
  have z1 := hb1.size
  go_wp2_with fail
  refine (RClient_any 7 w1 (by omega) (by omega)).mono ?_
  rintro e w2 ⟨rfl, hb2⟩
  have z2 := hb2.size
  go_wp2_with fail
  refine (RClient_any 6 w2 (by omega) (by omega)).mono ?_
  rintro e w3 ⟨rfl, hb3⟩
  have z3 := hb3.size
  have hB3 : Below w.heap.size w w3 := (hb1.trans (hb2.mono z1)).trans (hb3.mono (by omega))
  have hS := ShelfAt.lit w3 knownL #[.string (bs (clientL 9)), .string (bs (valueL 5 [120])), .bool false, .string (bs (clientL 7)), .string ⟨#[5]⟩, .bool false, .string (bs (clientL 6)), .string ⟨#[5, 1, 121]⟩, .bool true] rfl 24 3
  replace hS := Lib.hid hS
  go_wp2_with fail
  refine (ask.out 8 0 _ _ _ 0 _ k8 (by rw [show ((8 : Int).toNat) = 8 from rfl, s8]; omega) hS.out (by omega) (by omega) (by omega) (by omega) (by omega) (by omega)).mono ?_
  rintro e w4 ⟨rfl, hb4⟩
  have hS4 := Lib.hid (hS.out.next hb4)
  have z4 := hS4.out.lt
  have hB4 := ask_below (B := w.heap.size) hb4 (by omega) (by simp; omega)
  go_wp2_with fail
  refine (Ask_nil 9 5 w4).mono ?_
  rintro e w' ⟨rfl, rfl⟩
  go_wp2_with fail
  refine (ask.out 7 5 _ _ _ 1 _ k7 (by rw [show ((7 : Int).toNat) = 7 from rfl, s7]; omega) hS4.out (by omega) (by omega) (by omega) (by omega) (by omega) (by omega)).mono ?_
  rintro e w5 ⟨rfl, hb5⟩
  have hS5 := Lib.hid (hS4.out.next hb5)
  have z5 := hS5.out.lt
  have hB5 := ask_below (B := w.heap.size) hb5 (by omega) (by omega)
  go_wp2_with fail
  refine (ask.out 6 4 _ _ _ 2 _ k6 (by rw [show ((6 : Int).toNat) = 6 from rfl, s6]; omega) hS5.out (by omega) (by omega) (by omega) (by omega) (by omega) (by omega)).mono ?_
  rintro e w6 ⟨rfl, hb6⟩
  have z6 := (hS5.out.next hb6).lt
  have hB6 := ask_below (B := w.heap.size) hb6 (by omega) (by omega)
  have hfin : Below w.heap.size w w6 := (((((hB3.alloc (by omega) _).alloc (by simp; omega) _).trans hB4).trans hB5).trans hB6)
  clear hB4 hB5 hB6 hb4 hb5 hb6 hS hS4 hS5 hB3 ask
  go_wp2_with fail
  refine (keep9'.out w6).mono ?_
  rintro e w7 ⟨rfl, hb7⟩
  have z7 := hb7.size
  go_wp2_with fail
  refine (keepz.out _).mono ?_
  rintro e w8 ⟨rfl, hb8⟩
  have z8 := hb8.size
  go_wp2_with fail
  refine (awake_any _).mono ?_
  rintro e w9 ⟨rfl, hb9⟩
  go_wp2_with fail
  go_ret
  refine ⟨rfl, (hfin.trans (hb7.mono (by omega))).trans (((Below.refl _ _).alloc (by omega) _).trans ((hb8.mono (by simp; omega)).trans (hb9.mono (by simp at z8; omega))))⟩
end Go.Proofs.YtbaobjkhdieapaaDoor
