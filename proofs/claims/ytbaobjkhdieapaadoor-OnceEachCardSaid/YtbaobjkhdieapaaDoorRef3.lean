/- Contracts of the document's answers: a client's key and value. -/
import Derived.Test.YtbaobjkhdieapaaDoorPure1
namespace Go.Proofs.YtbaobjkhdieapaaDoor
open Go.RowKit
set_option linter.unusedVariables false
set_option linter.unusedSimpArgs false

set_option maxRecDepth 100000 in
set_option maxHeartbeats 2000000 in
theorem RClient_any (c : Int) (w : World) (h0 : 0 ≤ c) (h1 : c ≤ 255) :
    Calls Tryd.prog 8 #[.int .u8 c] w fun e w' => e = .returned (.string (bs (clientL c.toNat))) ∧ Below w.heap.size w w' := by
  have hk : rkeyL ([7, c].map Int.toNat) = clientL c.toNat := by
    rw [rkeyL_eq _ (fun m hm => by simp at hm; omega)]
    rfl
  replace hk := Lib.hid hk
  go_enter Tryd.func8, Tryd.ntmps8
  go_wp2_with fail
  go_at_call 18
  refine (RNum_any 7 _).mono ?_
  rintro e w1 ⟨rfl, hb1⟩
  obtain ⟨hc1, hf1⟩ := bcell hb1
  have z1 := hb1.size
  try simp at z1
  clear hc1 hf1
  go_wp2_with fail
  go_at_call 18
  refine (RNum_any c _).mono ?_
  rintro e w2 ⟨rfl, hb2⟩
  obtain ⟨hc2, hf2⟩ := bcell hb2
  have z2 := hb2.size
  try simp at z2
  clear hc2 hf2
  go_wp2_with fail
  refine (RKey_any (some ⟨w2.heap.size, 0, none⟩) [7, c] 2 _ ⟨rfl, fun _ => ⟨_, rfl, by simp, fun j u hu => ?_⟩⟩ ?_ (by simp)).mono ?_
  · have hj : j < 6 := by
      rcases Nat.lt_or_ge j 6 with h | h
      · exact h
      · rw [List.getElem?_eq_none (by simp [partsV]; omega)] at hu; cases hu
    have hcell : ∀ i : Nat, (w2.alloc (Obj.cells #[Value.bool false, Value.string { data := #[] }, Value.int IntKind.u64 7, Value.bool false, Value.string { data := #[] }, Value.int IntKind.u64 c] 52)).cell? ⟨w2.heap.size, i, none⟩ = (#[Value.bool false, Value.string { data := #[] }, Value.int IntKind.u64 7, Value.bool false, Value.string { data := #[] }, Value.int IntKind.u64 c])[i]? := fun i => World.cell?_alloc_new _ _ _ _
    match j, hj with
    | 0, _ => exact (hcell 0).trans hu
    | 1, _ => exact (hcell 1).trans hu
    | 2, _ => exact (hcell 2).trans hu
    | 3, _ => exact (hcell 3).trans hu
    | 4, _ => exact (hcell 4).trans hu
    | 5, _ => exact (hcell 5).trans hu
  · intro n hn
    simp at hn
    rcases hn with rfl | rfl
    · exact ⟨by omega, by omega⟩
    · exact ⟨by omega, by omega⟩
  rintro e w3 ⟨rfl, hb3⟩
  go_wp2_with fail
  go_ret
  exact ⟨by rw [← hk.out]; rfl, (by repeat' first | (with_reducible exact Below.refl _ _) | (with_reducible refine Below.setCell ?_ ?_ _) | (with_reducible refine Below.alloc ?_ ?_ _) | (with_reducible refine Below.drew ?_) | (with_reducible refine Below.trans ?_ (Below.mono (by assumption) ?_)) | omega | (simp; done) | (simp; omega))⟩

theorem empty_app (s : ByteArray) : (⟨#[]⟩ : ByteArray) ++ s = s := by
  apply ByteArray.ext
  simp
set_option maxRecDepth 100000 in
set_option maxHeartbeats 2000000 in
theorem RText_one (b : Nat) (s : ByteArray) (w : World) (hb : b < w.heap.size) (hc : w.cell? ⟨b, 0, none⟩ = some (.string s)) (hs : s.size ≤ 1073741824) :
    Calls Tryd.prog 21 #[.slice (some ⟨b, 0, none⟩) 1 1] w fun e w' => e = .returned (.string (bs (textL [s.data.toList]))) ∧ Below w.heap.size w w' := by
  have hrl := rowL_len s.size (by omega)
  have hre := rowL_eq s.size (by omega)
  have q1 : (bs (rowL s.size)).size ≤ 9 := by rw [bs_size]; exact hrl
  have q2 : (bs []).size + (bs (rowL s.size)).size ≤ 9223372036854775807 := by rw [bs_size []]; simp; omega
  have q3 : (bs (rowL s.size)).size + s.size ≤ 9223372036854775807 := by omega
  replace hre := Lib.hid hre
  clear hrl
  go_enter Tryd.func21, Tryd.ntmps21
  go_wp2
  go_loopw [3, 4] (fun o i wr => (i = .int .i64 0 ∧ o = .string ⟨#[]⟩ ∧ Below w.heap.size w wr) ∨ (i = .int .i64 1 ∧ o = .string (bs (rowL s.size) ++ s) ∧ Below w.heap.size w wr)) (fun _ i _ => (1 - intOf i).toNat)
  case atStart => exact .inl ⟨rfl, rfl, Below.refl _ _⟩
  case round =>
    rcases hrel with ⟨rfl, rfl, hb0⟩ | ⟨rfl, rfl, hb0⟩
    · have hcr := (hb0.cell (p := ⟨b, 0, none⟩) hb).trans hc
      have hz := hb0.size
      have hbr : b < wr.heap.size := by omega
      go_wp2_with fail
      have hxc := @Ext.cell
      refine wp_region_ext (by kernel_rfl) (by kernel_rfl) ?_
      repeat (go_big_quiet_step ((first | (go_at_call 20; exact Calls.ext (Row_any s.size _ (by omega) (by omega))))))
      refine wpQuiet_nil ?_
      clear hxc
      intro wx hwx
      obtain ⟨x, hx⟩ := hwx
      have hb := x.below
      rw [← hx] at hb
      clear hx x
      go_wp2_with fail
      refine ⟨.inr ⟨rfl, by rw [empty_app], hb0.trans (hb.mono hz)⟩, by simp [intOf]⟩
    · go_wp2_with fail
      go_ret
      refine ⟨?_, hb0⟩
      have e : bs (rowL s.size) ++ s = bs (textL [s.data.toList]) := by
        simp only [textL]
        rw [hre.out, dlen, List.append_nil, ← bs_append, bs_of]
      exact congrArg _ (congrArg _ e)

set_option maxRecDepth 100000 in
set_option maxHeartbeats 2000000 in
theorem Last_any (n : Int) (s : ByteArray) (w : World) (h0 : 0 ≤ n) (h1 : n ≤ 18446744073709551615) (hs : s.size ≤ 480) :
    Calls Tryd.prog 13 #[.int .u64 n, .string s] w fun e w' => e = .returned (.tuple #[.string (bs (valueL n.toNat s.data.toList)), .int .i64 0]) ∧ Below w.heap.size w w' := by
  have hre := rowL_eq n.toNat (by omega)
  have hl1 := rowL_len n.toNat (by omega)
  have hl2 : (textL [s.data.toList]).length ≤ 489 := by have := varL1_len s.size; simp [textL, dlen]; omega
  have q1 : (bs (rowL n.toNat)).size + (bs (textL [s.data.toList])).size ≤ 9223372036854775807 := by rw [bs_size, bs_size]; omega
  replace hre := Lib.hid hre
  go_enter Tryd.func13, Tryd.ntmps13
  go_wp2_with fail
  refine (Row_any n _ h0 h1).mono ?_
  rintro e w1 ⟨rfl, hb1⟩
  have hz1 := hb1.size
  go_wp2_with fail
  refine (RText_one _ s _ (by simp) (by simp [go_sem]) (by omega)).mono ?_
  rintro e w2 ⟨rfl, hb2⟩
  go_wp2_with fail
  go_ret2
  refine ⟨?_, (by repeat' first | (with_reducible exact Below.refl _ _) | (with_reducible refine Below.setCell ?_ ?_ _) | (with_reducible refine Below.alloc ?_ ?_ _) | (with_reducible refine Below.drew ?_) | (with_reducible refine Below.trans ?_ (Below.mono (by assumption) ?_)) | omega | (simp; done) | (simp; omega))⟩
  rw [bs_append, hre.out]
  rfl
end Go.Proofs.YtbaobjkhdieapaaDoor
