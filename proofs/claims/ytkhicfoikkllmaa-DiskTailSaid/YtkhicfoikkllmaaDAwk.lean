/- The law's awake. -/
import Derived.Test.YtkhicfoikkllmaaDw
namespace Go.Proofs.Ytkhicfoikkllmaa
open Go.RowKit
set_option linter.unusedVariables false
set_option linter.unusedSimpArgs false
def aC : Cra := ⟨0, [1], []⟩
def A0 : Dsk := Dsk.new 10
def A1 : Dsk := (A0.create [97]).1
def A2 : Dsk := (A1.append [97] [49, 50, 51, 52, 53]).1
def A3 : Dsk := (A2.sync [97]).1
def A4 : Dsk := A3.dirsync.1
def A5 : Dsk := (A4.append [97] [54, 55]).1
def A6 : Dsk := (A5.append [97] [56, 57, 48, 49]).1
def A7 : Dsk := A6.crash aC
def A8 : Dsk := A7.start
theorem a1 : (A0.create [97]).2 = 0 := by decide +kernel
theorem a2 : (A1.append [97] [49, 50, 51, 52, 53]).2 = 0 := by decide +kernel
theorem a3 : (A2.sync [97]).2 = 0 := by decide +kernel
theorem a4 : A3.dirsync.2 = 0 := by decide +kernel
theorem a5 : (A4.append [97] [54, 55]).2 = 0 := by decide +kernel
theorem a6 : (A5.append [97] [56, 57, 48, 49]).2 = 6 := by decide +kernel
theorem a7 : (A7.read [97]).2 = 7 := by decide +kernel
theorem a8 : A8.read [97] = ([49, 50, 51, 52, 53, 54], 0) := by decide +kernel
theorem g0 : A0.Good 0 := .new 10
theorem g1 : A1.Good 1 := g0.create _
theorem g2 : A2.Good 2 := g1.append _ _
theorem g3 : A3.Good 3 := g2.sync _
theorem g4 : A4.Good 4 := g3.dirsync
theorem g5 : A5.Good 5 := g4.append _ _
theorem g6 : A6.Good 6 := g5.append _ _
theorem g7 : A7.Good 7 := g6.crash _
theorem g8 : A8.Good 7 := g7.start
theorem aC_at (w : World) (t : TypeId) : CraAt (w.alloc (.cells #[.int .i64 1] t)) aC (some ⟨w.heap.size, 0, none⟩) none :=
  ⟨⟨rfl, fun _ => ⟨_, rfl, by simp, fun j u hu => by
    have hj : j < 1 := (List.getElem?_eq_some_iff.1 hu).1
    match j, hj with
    | 0, _ => simp [keepV, aC] at hu; subst hu; simp [Addr.add]⟩⟩, Reads.none_, by decide, by decide, (fun x hx => by simp [aC] at hx; subst hx; omega), (fun x hx => by simp [aC] at hx)⟩
set_option maxRecDepth 100000 in
set_option maxHeartbeats 4000000 in
theorem awake_any (w : World) :
    Calls Try.prog 10 #[] w fun e w' => e = .returned (.bool true) ∧ Below w.heap.size w w' := by
  go_enter Try.func10, Try.ntmps10
  go_wp2_with fail
  refine (New_dw 10 w).mono ?_
  rintro e w1 ⟨d, rfl, h1, b1⟩
  have c1 := Create_dw h1 g0 (by omega) ⟨#[97]⟩ (by decide)
  rw [show (⟨#[97]⟩ : ByteArray).data.toList = [97] from rfl, show ((Dsk.new 10).create [97]).2 = 0 from a1] at c1
  replace c1 := Lib.hid c1
  go_wp2_with fail
  refine c1.out.mono ?_
  rintro e w2 ⟨rfl, h2, b2⟩
  have c2 := Append_dw h2 g1 (by omega) ⟨#[97]⟩ (by decide) ⟨#[49, 50, 51, 52, 53]⟩ (by decide)
  rw [show (⟨#[97]⟩ : ByteArray).data.toList = [97] from rfl, show (⟨#[49, 50, 51, 52, 53]⟩ : ByteArray).data.toList = [49, 50, 51, 52, 53] from rfl, show (((Dsk.new 10).create [97]).1.append [97] [49, 50, 51, 52, 53]).2 = 0 from a2] at c2
  replace c2 := Lib.hid c2
  go_wp2_with fail
  refine c2.out.mono ?_
  rintro e w3 ⟨rfl, h3, b3⟩
  have c3 := Sync_dw (show Dw w.heap.size w3 d A2 from h3) g2 ⟨#[97]⟩ (by decide)
  rw [show (⟨#[97]⟩ : ByteArray).data.toList = [97] from rfl, a3] at c3
  replace c3 := Lib.hid c3
  go_wp2_with fail
  refine c3.out.mono ?_
  rintro e w4 ⟨rfl, h4, b4⟩
  have c4 := DirSync_dw (show Dw w.heap.size w4 d A3 from h4) g3
  rw [a4] at c4
  replace c4 := Lib.hid c4
  go_wp2_with fail
  refine c4.out.mono ?_
  rintro e w5 ⟨rfl, h5, b5⟩
  have c5 := Append_dw (show Dw w.heap.size w5 d A4 from h5) g4 (by omega) ⟨#[97]⟩ (by decide) ⟨#[54, 55]⟩ (by decide)
  rw [show (⟨#[97]⟩ : ByteArray).data.toList = [97] from rfl, show (⟨#[54, 55]⟩ : ByteArray).data.toList = [54, 55] from rfl, a5] at c5
  replace c5 := Lib.hid c5
  go_wp2_with fail
  refine c5.out.mono ?_
  rintro e w6 ⟨rfl, h6, b6⟩
  have c6 := Append_dw (show Dw w.heap.size w6 d A5 from h6) g5 (by omega) ⟨#[97]⟩ (by decide) ⟨#[56, 57, 48, 49]⟩ (by decide)
  rw [show (⟨#[97]⟩ : ByteArray).data.toList = [97] from rfl, show (⟨#[56, 57, 48, 49]⟩ : ByteArray).data.toList = [56, 57, 48, 49] from rfl, a6] at c6
  replace c6 := Lib.hid c6
  go_wp2_with fail
  refine c6.out.mono ?_
  rintro e w7 ⟨rfl, h7, b7⟩
  go_wp2_with fail
  have hal : Below w7.heap.size w7 (w7.alloc (.cells #[.int .i64 1] 3)) := (Below.refl _ _).alloc (Nat.le_refl _) _
  have hws := h7.size
  have c7 := Crash_dw (show Dw w.heap.size w7 d A6 from h7) hal g6 (by omega) aC (some ⟨w7.heap.size, 0, none⟩) none 1 0 (aC_at w7 3) (fun ad e => by
    rcases e with ⟨_, e⟩ | ⟨_, e⟩
    · injection e with e
      subst e
      exact .inr (Nat.le_refl _)
    · cases e)
  unfold craV at c7
  simp only [aC, List.length_singleton, List.length_nil] at c7
  replace c7 := Lib.hid c7
  refine c7.out.mono ?_
  rintro e w9 ⟨rfl, h9, b9⟩
  have c8 := Read_dw (show Dw w.heap.size w9 d A7 from h9) g7 ⟨#[97]⟩ (by decide)
  rw [show (⟨#[97]⟩ : ByteArray).data.toList = [97] from rfl, a7] at c8
  replace c8 := Lib.hid c8
  go_wp2_with fail
  refine c8.out.mono ?_
  rintro e w' ⟨rfl, rfl⟩
  have c9 := Start_dw (show Dw w.heap.size w9 d A7 from h9)
  replace c9 := Lib.hid c9
  go_wp2_with fail
  refine c9.out.mono ?_
  rintro e w10 ⟨rfl, h10, b10⟩
  have c10 := Read_dw (show Dw w.heap.size w10 d A8 from h10) g8 ⟨#[97]⟩ (by decide)
  rw [show (⟨#[97]⟩ : ByteArray).data.toList = [97] from rfl, a8] at c10
  simp only [] at c10
  rw [show bs [49, 50, 51, 52, 53, 54] = (⟨#[49, 50, 51, 52, 53, 54]⟩ : ByteArray) from rfl] at c10
  replace c10 := Lib.hid c10
  go_wp2_with fail
  refine c10.out.mono ?_
  rintro e w' ⟨rfl, rfl⟩
  have hfin : Below w.heap.size w w10 := ((((((((b1.trans b2).trans b3).trans b4).trans b5).trans b6).trans b7).trans (hal.mono hws)).trans b9).trans b10
  replace hfin := Lib.hid hfin
  clear b1 b2 b3 b4 b5 b6 b7 b9 b10 hal
  go_wp2_with fail
  go_ret
  exact ⟨rfl, hfin.out⟩
end Go.Proofs.Ytkhicfoikkllmaa
