/- DiskKnown: the walk. -/
import Derived.Test.YtkhicfoikkllmaaGreatDoorNumP
namespace Go.Proofs.YtkhicfoikkllmaaGreatDoor
open Go.RowKit Go.Lib Go.Sort
set_option linter.unusedVariables false
set_option linter.unusedSimpArgs false
theorem Fused_dw {B : Nat} {w : World} {d : Nat} {s : Dsk} (h : Dw B w d s) : Calls Tryz.prog 16 #[.pointer (some ⟨d, 0, none⟩)] w fun e w' => e = .returned (.int .i64 (s.fuse : Nat)) ∧ w = w' := by
  obtain ⟨L, hL⟩ := h
  have hn := Lib.hid (none_any hL)
  have c5 := hL.box.cell 5
  go_enter Tryz.func16, Tryz.ntmps16
  go_wp2_with fail
  refine hn.out.mono ?_
  rintro e w' ⟨rfl, rfl⟩
  go_wp2_with fail
  go_ret
  exact ⟨rfl, rfl⟩
theorem Room_dw {B : Nat} {w : World} {d : Nat} {s : Dsk} (h : Dw B w d s) : Calls Tryz.prog 20 #[.pointer (some ⟨d, 0, none⟩)] w fun e w' => e = .returned (.int .i64 (s.room : Nat)) ∧ w = w' := by
  obtain ⟨L, hL⟩ := h
  have hn := Lib.hid (none_any hL)
  have c0 := hL.box.cell 0
  go_enter Tryz.func20, Tryz.ntmps20
  go_wp2_with fail
  refine hn.out.mono ?_
  rintro e w' ⟨rfl, rfl⟩
  go_wp2_with fail
  go_ret
  exact ⟨rfl, rfl⟩
def kC : Cra := ⟨0, [], []⟩
def K0 : Dsk := Dsk.new 10
def K1 : Dsk := (K0.create [97]).1
theorem k1 : (K0.create [97]).2 = 0 := by decide +kernel
def K2 : Dsk := (K1.create [97]).1
theorem k2 : (K1.create [97]).2 = 5 := by decide +kernel
def K3 : Dsk := (K2.append [97] [49, 50, 51, 52, 53]).1
theorem k3 : (K2.append [97] [49, 50, 51, 52, 53]).2 = 0 := by decide +kernel
def K4 : Dsk := (K3.append [98] [49]).1
theorem k4 : (K3.append [98] [49]).2 = 4 := by decide +kernel
def K5 : Dsk := (K4.sync [97]).1
theorem k5 : (K4.sync [97]).2 = 0 := by decide +kernel
def K6 : Dsk := K5.dirsync.1
theorem k6 : K5.dirsync.2 = 0 := by decide +kernel
def K7 : Dsk := K6.setFuse 2
def K8 : Dsk := (K7.create [98]).1
theorem k8 : (K7.create [98]).2 = 0 := by decide +kernel
def K9 : Dsk := (K8.sync [98]).1
theorem k9 : (K8.sync [98]).2 = 7 := by decide +kernel
def K10 : Dsk := (K9.create [99]).1
theorem k10 : (K9.create [99]).2 = 7 := by decide +kernel
def K11 : Dsk := K10.crash kC
def K12 : Dsk := K11.start
def K13 : Dsk := (K12.create [65]).1
theorem k13 : (K12.create [65]).2 = 1 := by decide +kernel
def K14 : Dsk := (K13.create []).1
theorem k14 : (K13.create []).2 = 1 := by decide +kernel
def K15 : Dsk := (K14.create [97, 98, 99, 100, 101, 102, 103, 104, 105, 106, 107, 108, 109, 110, 111, 112, 113, 114, 115, 116, 117, 118, 119, 120, 121]).1
theorem k15 : (K14.create [97, 98, 99, 100, 101, 102, 103, 104, 105, 106, 107, 108, 109, 110, 111, 112, 113, 114, 115, 116, 117, 118, 119, 120, 121]).2 = 1 := by decide +kernel
def K16 : Dsk := (K15.rename [97] [66]).1
theorem k16 : (K15.rename [97] [66]).2 = 1 := by decide +kernel
theorem h0 : K0.Good 0 := .new 10
theorem h1 : K1.Good 1 := h0.create _
theorem h2 : K2.Good 2 := h1.create _
theorem h3 : K3.Good 3 := h2.append _ _
theorem h4 : K4.Good 4 := h3.append _ _
theorem h5 : K5.Good 5 := h4.sync _
theorem h6 : K6.Good 6 := h5.dirsync
theorem h7 : K7.Good 6 := h6.setFuse (by omega)
theorem h8 : K8.Good 7 := h7.create _
theorem h9 : K9.Good 8 := h8.sync _
theorem h10 : K10.Good 9 := h9.create _
theorem h11 : K11.Good 10 := h10.crash _
theorem h12 : K12.Good 10 := h11.start
theorem h13 : K13.Good 11 := h12.create _
theorem h14 : K14.Good 12 := h13.create _
theorem h15 : K15.Good 13 := h14.create _
theorem h16 : K16.Good 14 := h15.rename _ _
theorem kfuse : K8.fuse = 1 := by decide +kernel
theorem knames : K12.names = [([97], 0)] := by decide +kernel
theorem kroom1 : (Dsk.new (-1)).room = 0 := by decide +kernel
theorem kroom2 : (Dsk.new 1048577).room = 1048576 := by decide +kernel
theorem kn1 : nameL [108, 111, 103] 7 = [108, 111, 103, 46, 48, 48, 48, 48, 48, 48, 48, 55] := by
  unfold nameL pad8
  rw [decDigits_one (by omega), nDigits_small (by omega)]
  decide
theorem kn2 : nameL [108, 111, 103] 123456789 = [108, 111, 103, 46, 49, 50, 51, 52, 53, 54, 55, 56, 57] := by
  have hd : decDigits 123456789 = [49, 50, 51, 52, 53, 54, 55, 56, 57] := by
    rw [decDigits_big (by omega), decDigits_big (by omega), decDigits_big (by omega), decDigits_big (by omega), decDigits_big (by omega), decDigits_big (by omega), decDigits_big (by omega), decDigits_big (by omega), decDigits_one (by omega)]
    decide
  have hn : nDigits 123456789 = 9 := by rw [← decDigits_length, hd]; rfl
  unfold nameL pad8
  rw [hn, hd]
  decide
theorem kn3 : numP [108, 111, 103] [108, 111, 103, 46, 48, 48, 48, 48, 48, 48, 48, 55] = some 7 := by
  rw [← kn1]
  exact numP_name _ 7 (by omega)
theorem kn_none {n : List UInt8} (h : n.length ≠ 12) (hl : n.length < 14) (h2 : parseUintB 64 (trimPrefix n [108, 111, 103, 46]) = .ok 7) : numP [108, 111, 103] n = none := by
  unfold numP
  rw [show [108, 111, 103] ++ [46] = ([108, 111, 103, 46] : List UInt8) from rfl, h2]
  simp only []
  rw [if_neg]
  intro e
  rw [kn1] at e
  rw [← e] at h
  exact h rfl
theorem kn4 : numP [108, 111, 103] [108, 111, 103, 46, 55] = none := kn_none (by decide) (by decide) (by decide +kernel)
theorem kn5 : numP [108, 111, 103] [108, 111, 103, 46, 48, 48, 48, 48, 48, 48, 48, 48, 55] = none := kn_none (by decide) (by decide) (by decide +kernel)
set_option maxRecDepth 100000 in
set_option maxHeartbeats 8000000 in
theorem Known_any (w : World) (hl : Laid5 w) (h6 : 6 ≤ w.heap.size) :
    Calls Tryz.prog 4 #[] w fun e w' => e = .returned (.bool true) ∧ Below w.heap.size w w' := by
  have hawk := Lib.hid awake_any
  replace hl := Lib.hid hl
  go_enter Tryz.func4, Tryz.ntmps4
  go_wp2_with fail
  refine (New_dw 10 w).mono ?_
  rintro e w0 ⟨d, rfl, D0, B0⟩
  replace B0 := Lib.hid B0
  have hd := show Dw w.heap.size w0 d K0 from D0
  have hc := Create_dw hd h0 (by omega) ⟨#[97]⟩ (by decide)
  rw [show (⟨#[97]⟩ : ByteArray).data.toList = [97] from rfl, k1] at hc
  replace hc := Lib.hid hc
  clear hd
  go_wp2_with fail
  refine hc.out.mono ?_
  rintro e w1 ⟨rfl, D1, b⟩
  have B1 := B0.out.trans b
  replace B1 := Lib.hid B1
  clear b hc
  have hd := show Dw w.heap.size w1 d K1 from D1
  have hc := Create_dw hd h1 (by omega) ⟨#[97]⟩ (by decide)
  rw [show (⟨#[97]⟩ : ByteArray).data.toList = [97] from rfl, k2] at hc
  replace hc := Lib.hid hc
  clear hd
  go_wp2_with fail
  refine hc.out.mono ?_
  rintro e w2 ⟨rfl, D2, b⟩
  have B2 := B1.out.trans b
  replace B2 := Lib.hid B2
  clear b hc
  have hd := show Dw w.heap.size w2 d K2 from D2
  have hc := Append_dw hd h2 (by omega) ⟨#[97]⟩ (by decide) ⟨#[49, 50, 51, 52, 53]⟩ (by decide)
  rw [show (⟨#[97]⟩ : ByteArray).data.toList = [97] from rfl, show (⟨#[49, 50, 51, 52, 53]⟩ : ByteArray).data.toList = [49, 50, 51, 52, 53] from rfl, k3] at hc
  replace hc := Lib.hid hc
  clear hd
  go_wp2_with fail
  refine hc.out.mono ?_
  rintro e w3 ⟨rfl, D3, b⟩
  have B3 := B2.out.trans b
  replace B3 := Lib.hid B3
  clear b hc
  have hd := show Dw w.heap.size w3 d K3 from D3
  have hc := Append_dw hd h3 (by omega) ⟨#[98]⟩ (by decide) ⟨#[49]⟩ (by decide)
  rw [show (⟨#[98]⟩ : ByteArray).data.toList = [98] from rfl, show (⟨#[49]⟩ : ByteArray).data.toList = [49] from rfl, k4] at hc
  replace hc := Lib.hid hc
  clear hd
  go_wp2_with fail
  refine hc.out.mono ?_
  rintro e w4 ⟨rfl, D4, b⟩
  have B4 := B3.out.trans b
  replace B4 := Lib.hid B4
  clear b hc
  have hd := show Dw w.heap.size w4 d K4 from D4
  have hc := Sync_dw hd h4 ⟨#[97]⟩ (by decide)
  rw [show (⟨#[97]⟩ : ByteArray).data.toList = [97] from rfl, k5] at hc
  replace hc := Lib.hid hc
  clear hd
  go_wp2_with fail
  refine hc.out.mono ?_
  rintro e w5 ⟨rfl, D5, b⟩
  have B5 := B4.out.trans b
  replace B5 := Lib.hid B5
  clear b hc
  have hd := show Dw w.heap.size w5 d K5 from D5
  have hc := DirSync_dw hd h5
  rw [k6] at hc
  replace hc := Lib.hid hc
  clear hd
  go_wp2_with fail
  refine hc.out.mono ?_
  rintro e w6 ⟨rfl, D6, b⟩
  have B6 := B5.out.trans b
  replace B6 := Lib.hid B6
  clear b hc
  have hd := show Dw w.heap.size w6 d K6 from D6
  have hc := Fuse_dw hd 2
  replace hc := Lib.hid hc
  clear hd
  go_wp2_with fail
  refine hc.out.mono ?_
  rintro e w7 ⟨rfl, D7, b⟩
  have B7 := B6.out.trans b
  replace B7 := Lib.hid B7
  clear b hc
  have hd := show Dw w.heap.size w7 d K7 from D7
  have hc := Create_dw hd h7 (by omega) ⟨#[98]⟩ (by decide)
  rw [show (⟨#[98]⟩ : ByteArray).data.toList = [98] from rfl, k8] at hc
  replace hc := Lib.hid hc
  clear hd
  go_wp2_with fail
  refine hc.out.mono ?_
  rintro e w8 ⟨rfl, D8, b⟩
  have B8 := B7.out.trans b
  replace B8 := Lib.hid B8
  clear b hc
  have hc := Fused_dw (show Dw w.heap.size w8 d K8 from D8)
  rw [kfuse] at hc
  replace hc := Lib.hid hc
  go_wp2_with fail
  refine hc.out.mono ?_
  rintro e w' ⟨rfl, rfl⟩
  clear hc
  have hd := show Dw w.heap.size w8 d K8 from D8
  have hc := Sync_dw hd h8 ⟨#[98]⟩ (by decide)
  rw [show (⟨#[98]⟩ : ByteArray).data.toList = [98] from rfl, k9] at hc
  replace hc := Lib.hid hc
  clear hd
  go_wp2_with fail
  refine hc.out.mono ?_
  rintro e w9 ⟨rfl, D9, b⟩
  have B9 := B8.out.trans b
  replace B9 := Lib.hid B9
  clear b hc
  have hd := show Dw w.heap.size w9 d K9 from D9
  have hc := Create_dw hd h9 (by omega) ⟨#[99]⟩ (by decide)
  rw [show (⟨#[99]⟩ : ByteArray).data.toList = [99] from rfl, k10] at hc
  replace hc := Lib.hid hc
  clear hd
  go_wp2_with fail
  refine hc.out.mono ?_
  rintro e w10 ⟨rfl, D10, b⟩
  have B10 := B9.out.trans b
  replace B10 := Lib.hid B10
  clear b hc
  have hd := show Dw w.heap.size w10 d K10 from D10
  have hc := Crash_dw hd (Below.refl _ _) h10 (by omega) kC none none 0 0 ⟨Reads.none_, Reads.none_, by decide, by decide, (fun x hx => by cases hx), (fun x hx => by cases hx)⟩ (fun ad e => by rcases e with ⟨_, e⟩ | ⟨_, e⟩ <;> cases e)
  unfold craV at hc
  simp only [kC, List.length_nil] at hc
  replace hc := Lib.hid hc
  clear hd
  go_wp2_with fail
  refine hc.out.mono ?_
  rintro e w11 ⟨rfl, D11, b⟩
  have B11 := B10.out.trans b
  replace B11 := Lib.hid B11
  clear b hc
  have hd := show Dw w.heap.size w11 d K11 from D11
  have hc := Start_dw hd
  replace hc := Lib.hid hc
  clear hd
  go_wp2_with fail
  refine hc.out.mono ?_
  rintro e w12 ⟨rfl, D12, b⟩
  have B12 := B11.out.trans b
  replace B12 := Lib.hid B12
  clear b hc
  have hd := show Dw w.heap.size w12 d K12 from D12
  have hc : Calls Tryz.prog 19 #[.pointer (some ⟨d, 0, none⟩)] w12 fun e w' => ∃ v : Value, e = .returned v ∧ w'.ownsRow 0 9 1 v 1 [.string ⟨#[97]⟩] ∧ Below w12.heap.size w12 w' := by
    obtain ⟨L, hL⟩ := hd
    have := List_any hL (by rw [knames]; decide)
    rw [knames] at this
    exact this
  replace hc := Lib.hid hc
  go_wp2_with fail
  refine hc.out.mono ?_
  rintro e v12 ⟨lv, rfl, hrow, b⟩
  have D12' := hd.below b (Nat.le_refl _)
  have hz12 := B12.out.size
  have Bl := B12.out.trans (b.mono hz12)
  obtain ⟨lg, lc, rfl, hcell, hlt⟩ : ∃ g c, lv = .slice (some ⟨g, 0, none⟩) 1 c ∧ v12.cell? ⟨g, 0, none⟩ = some (.string ⟨#[97]⟩) ∧ g < v12.heap.size := by
    rcases hrow.2 with ⟨_, hn⟩ | ⟨g, cap, cur, e, _⟩
    · cases hn
    · have hcc := World.ownsRow.cells hrow (g := g) (by rw [e]; rfl) 0 _ rfl
      rw [add_plain2] at hcc
      exact ⟨g, cap, e, hcc, (own_lt hrow g (by rw [e]; rfl)).2⟩
  have hzl := Bl.size
  have hl2 := hl.out.below Bl (by omega)
  have hc1 := Number_any ⟨#[108, 111, 103]⟩ ⟨#[108, 111, 103, 46, 48, 48, 48, 48, 48, 48, 48, 55]⟩ (by decide) (by decide) v12 hl2 (by omega)
  rw [show (⟨#[108, 111, 103]⟩ : ByteArray).data.toList = [108, 111, 103] from rfl, show (⟨#[108, 111, 103, 46, 48, 48, 48, 48, 48, 48, 48, 55]⟩ : ByteArray).data.toList = [108, 111, 103, 46, 48, 48, 48, 48, 48, 48, 48, 55] from rfl, kn3] at hc1
  simp only [numV] at hc1
  replace hc1 := Lib.hid hc1
  replace hrow := Lib.hid hrow
  replace Bl := Lib.hid Bl
  replace hl2 := Lib.hid hl2
  clear b hc hd
  go_wp2_with fail
  refine hc1.out.mono ?_
  rintro e x1 ⟨rfl, b⟩
  have hcell1 := (b.cell (p := ⟨lg, 0, none⟩) hlt).trans hcell
  have X1 := Bl.out.trans (b.mono hzl)
  have hz1 := X1.size
  have D1' := D12'.below b (Nat.le_refl _)
  have hlt1 : lg < x1.heap.size := by have := b.size; omega
  clear hcell b hc1 D12'
  have hc1 := Number_any ⟨#[108, 111, 103]⟩ ⟨#[108, 111, 103, 46, 55]⟩ (by decide) (by decide) x1 (hl.out.below X1 (by omega)) (by omega)
  rw [show (⟨#[108, 111, 103]⟩ : ByteArray).data.toList = [108, 111, 103] from rfl, show (⟨#[108, 111, 103, 46, 55]⟩ : ByteArray).data.toList = [108, 111, 103, 46, 55] from rfl, kn4] at hc1
  simp only [numV] at hc1
  replace hc1 := Lib.hid hc1
  replace X1 := Lib.hid X1
  go_wp2_with fail
  refine hc1.out.mono ?_
  rintro e x2 ⟨rfl, b⟩
  have hcell2 := (b.cell (p := ⟨lg, 0, none⟩) hlt1).trans hcell1
  have X2 := X1.out.trans (b.mono hz1)
  have hz2 := X2.size
  have D2' := D1'.below b (Nat.le_refl _)
  have hlt2 : lg < x2.heap.size := by have := b.size; omega
  clear hcell1 b hc1 D1'
  have hc1 := Number_any ⟨#[108, 111, 103]⟩ ⟨#[108, 111, 103, 46, 48, 48, 48, 48, 48, 48, 48, 48, 55]⟩ (by decide) (by decide) x2 (hl.out.below X2 (by omega)) (by omega)
  rw [show (⟨#[108, 111, 103]⟩ : ByteArray).data.toList = [108, 111, 103] from rfl, show (⟨#[108, 111, 103, 46, 48, 48, 48, 48, 48, 48, 48, 48, 55]⟩ : ByteArray).data.toList = [108, 111, 103, 46, 48, 48, 48, 48, 48, 48, 48, 48, 55] from rfl, kn5] at hc1
  simp only [numV] at hc1
  replace hc1 := Lib.hid hc1
  replace X2 := Lib.hid X2
  go_wp2_with fail
  refine hc1.out.mono ?_
  rintro e x3 ⟨rfl, b⟩
  have hcell3 := (b.cell (p := ⟨lg, 0, none⟩) hlt2).trans hcell2
  have X3 := X2.out.trans (b.mono hz2)
  have hz3 := X3.size
  have D3' := D2'.below b (Nat.le_refl _)
  have hlt3 : lg < x3.heap.size := by have := b.size; omega
  clear hcell2 b hc1 D2'
  replace X3 := Lib.hid X3
  have hc := New_dw (-1) x3
  replace hc := Lib.hid hc
  go_wp2_with fail
  refine hc.out.mono ?_
  rintro e x4 ⟨d4, rfl, E4, b⟩
  have X4 := X3.out.trans (b.mono hz3)
  have hz4 := X4.size
  have D4' := D3'.below b (Nat.le_refl _)
  have hc1 := Room_dw E4
  rw [kroom1] at hc1
  replace hc1 := Lib.hid hc1
  replace X4 := Lib.hid X4
  clear hc b D3' hcell3
  go_wp2_with fail
  refine hc1.out.mono ?_
  rintro e w' ⟨rfl, rfl⟩
  have hc := New_dw 1048577 x4
  replace hc := Lib.hid hc
  clear hc1 E4
  go_wp2_with fail
  refine hc.out.mono ?_
  rintro e x5 ⟨d5, rfl, E5, b⟩
  have X5 := X4.out.trans (b.mono hz4)
  have hz5 := X5.size
  have D5' := D4'.below b (Nat.le_refl _)
  have hc1 := Room_dw E5
  rw [kroom2] at hc1
  replace hc1 := Lib.hid hc1
  replace B12 := Lib.hid X5
  clear hc b D4' X5
  go_wp2_with fail
  refine hc1.out.mono ?_
  rintro e w' ⟨rfl, rfl⟩
  clear hc1 E5
  have D12 := D5'
  have hd := show Dw w.heap.size x5 d K12 from D12
  have hc := Create_dw hd h12 (by omega) ⟨#[65]⟩ (by decide)
  rw [show (⟨#[65]⟩ : ByteArray).data.toList = [65] from rfl, k13] at hc
  replace hc := Lib.hid hc
  clear hd
  go_wp2_with fail
  refine hc.out.mono ?_
  rintro e y13 ⟨rfl, D13, b⟩
  have B13 := B12.out.trans b
  replace B13 := Lib.hid B13
  clear b hc
  have hd := show Dw w.heap.size y13 d K13 from D13
  have hc := Create_dw hd h13 (by omega) ⟨#[]⟩ (by decide)
  rw [show (⟨#[]⟩ : ByteArray).data.toList = [] from rfl, k14] at hc
  replace hc := Lib.hid hc
  clear hd
  go_wp2_with fail
  refine hc.out.mono ?_
  rintro e y14 ⟨rfl, D14, b⟩
  have B14 := B13.out.trans b
  replace B14 := Lib.hid B14
  clear b hc
  have hd := show Dw w.heap.size y14 d K14 from D14
  have hc := Create_dw hd h14 (by omega) ⟨#[97, 98, 99, 100, 101, 102, 103, 104, 105, 106, 107, 108, 109, 110, 111, 112, 113, 114, 115, 116, 117, 118, 119, 120, 121]⟩ (by decide)
  rw [show (⟨#[97, 98, 99, 100, 101, 102, 103, 104, 105, 106, 107, 108, 109, 110, 111, 112, 113, 114, 115, 116, 117, 118, 119, 120, 121]⟩ : ByteArray).data.toList = [97, 98, 99, 100, 101, 102, 103, 104, 105, 106, 107, 108, 109, 110, 111, 112, 113, 114, 115, 116, 117, 118, 119, 120, 121] from rfl, k15] at hc
  replace hc := Lib.hid hc
  clear hd
  go_wp2_with fail
  refine hc.out.mono ?_
  rintro e y15 ⟨rfl, D15, b⟩
  have B15 := B14.out.trans b
  replace B15 := Lib.hid B15
  clear b hc
  have hd := show Dw w.heap.size y15 d K15 from D15
  have hc := Rename_dw hd h15 (by omega) ⟨#[97]⟩ (by decide) ⟨#[66]⟩
  rw [show (⟨#[97]⟩ : ByteArray).data.toList = [97] from rfl, show (⟨#[66]⟩ : ByteArray).data.toList = [66] from rfl, k16] at hc
  replace hc := Lib.hid hc
  clear hd
  go_wp2_with fail
  refine hc.out.mono ?_
  rintro e y16 ⟨rfl, D16, b⟩
  have B16 := B15.out.trans b
  replace B16 := Lib.hid B16
  clear b hc
  have hz := B16.out.size
  have hc := Name_any ⟨#[108, 111, 103]⟩ 7 (by decide) (by omega) y16 (hl.out.below B16.out (by omega)).tab
  rw [show (⟨#[108, 111, 103]⟩ : ByteArray).data.toList = [108, 111, 103] from rfl, kn1, show bs [108, 111, 103, 46, 48, 48, 48, 48, 48, 48, 48, 55] = (⟨#[108, 111, 103, 46, 48, 48, 48, 48, 48, 48, 48, 55]⟩ : ByteArray) from rfl] at hc
  replace hc := Lib.hid hc
  go_wp2_with fail
  refine hc.out.mono ?_
  rintro e z1 ⟨rfl, b⟩
  have Z1 := B16.out.trans (b.mono hz)
  replace Z1 := Lib.hid Z1
  clear b hc hz
  have hz := Z1.out.size
  have hc := Name_any ⟨#[108, 111, 103]⟩ 123456789 (by decide) (by omega) z1 (hl.out.below Z1.out (by omega)).tab
  rw [show (⟨#[108, 111, 103]⟩ : ByteArray).data.toList = [108, 111, 103] from rfl, kn2, show bs [108, 111, 103, 46, 49, 50, 51, 52, 53, 54, 55, 56, 57] = (⟨#[108, 111, 103, 46, 49, 50, 51, 52, 53, 54, 55, 56, 57]⟩ : ByteArray) from rfl] at hc
  replace hc := Lib.hid hc
  go_wp2_with fail
  refine hc.out.mono ?_
  rintro e z2 ⟨rfl, b⟩
  have Z2 := Z1.out.trans (b.mono hz)
  replace Z2 := Lib.hid Z2
  clear b hc hz
  go_wp2_with fail
  refine (hawk.out _).mono ?_
  rintro e z3 ⟨rfl, b⟩
  have hfin := Z2.out.trans (b.mono Z2.out.size)
  replace hfin := Lib.hid hfin
  clear b
  go_wp2_with fail
  go_ret
  exact ⟨rfl, hfin.out⟩
end Go.Proofs.YtkhicfoikkllmaaGreatDoor
