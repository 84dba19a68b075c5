/- TableKnown: the walk. -/
import Derived.Test.YtfnlponoakhegaaDoorTKn1J
namespace Go.Proofs.YtfnlponoakhegaaDoor
open Go.RowKit
set_option linter.unusedVariables false
set_option linter.unusedSimpArgs false
def kA0 : Ent := ⟨[97], [120], 5, false⟩
def kA1 : Ent := ⟨[97], [], 6, false⟩
def kA2 : Ent := ⟨[97], [], 5, false⟩
def kA3 : Ent := ⟨[], [], 1, false⟩
def kA4 : Ent := ⟨[98], [], 0, false⟩
def kA5 : Ent := ⟨[98], [], 9223372036854775809, false⟩
def kA6 : Ent := ⟨[98], [120], 1, true⟩
def kA7 : Ent := ⟨List.replicate 65 0, [], 1, false⟩
def kA8 : Ent := ⟨[98], List.replicate 513 0, 1, false⟩
theorem kE0 : (runX 1 0 []).1.err kA0 = 0 := by decide +kernel
theorem kP0 : ((runX 1 0 []).1.add kA0).2 = [] := by decide +kernel
theorem kE1 : (runX 1 0 [kA0]).1.err kA1 = 1 := by decide +kernel
theorem kP1 : ((runX 1 0 [kA0]).1.add kA1).2 = [] := by decide +kernel
theorem kE2 : (runX 1 0 [kA0, kA1]).1.err kA2 = 1 := by decide +kernel
theorem kP2 : ((runX 1 0 [kA0, kA1]).1.add kA2).2 = [] := by decide +kernel
theorem kE3 : (runX 1 0 [kA0, kA1, kA2]).1.err kA3 = 1 := by decide +kernel
theorem kP3 : ((runX 1 0 [kA0, kA1, kA2]).1.add kA3).2 = [] := by decide +kernel
theorem kE4 : (runX 1 0 [kA0, kA1, kA2, kA3]).1.err kA4 = 1 := by decide +kernel
theorem kP4 : ((runX 1 0 [kA0, kA1, kA2, kA3]).1.add kA4).2 = [] := by decide +kernel
theorem kE5 : (runX 1 0 [kA0, kA1, kA2, kA3, kA4]).1.err kA5 = 1 := by decide +kernel
theorem kP5 : ((runX 1 0 [kA0, kA1, kA2, kA3, kA4]).1.add kA5).2 = [] := by decide +kernel
theorem kE6 : (runX 1 0 [kA0, kA1, kA2, kA3, kA4, kA5]).1.err kA6 = 1 := by decide +kernel
theorem kP6 : ((runX 1 0 [kA0, kA1, kA2, kA3, kA4, kA5]).1.add kA6).2 = [] := by decide +kernel
theorem kE7 : (runX 1 0 [kA0, kA1, kA2, kA3, kA4, kA5, kA6]).1.err kA7 = 3 := by decide +kernel
theorem kP7 : ((runX 1 0 [kA0, kA1, kA2, kA3, kA4, kA5, kA6]).1.add kA7).2 = [] := by decide +kernel
theorem kE8 : (runX 1 0 [kA0, kA1, kA2, kA3, kA4, kA5, kA6, kA7]).1.err kA8 = 3 := by decide +kernel
theorem kP8 : ((runX 1 0 [kA0, kA1, kA2, kA3, kA4, kA5, kA6, kA7]).1.add kA8).2 = [] := by decide +kernel
theorem kOwn : (runX 1 0 [kA0, kA1, kA2, kA3, kA4, kA5, kA6, kA7, kA8]).2.2 = [kA0] := entT_inj (by decide +kernel)
theorem kOut : (runX 1 0 [kA0, kA1, kA2, kA3, kA4, kA5, kA6, kA7, kA8]).2.1 = [] := by decide +kernel
theorem kInt : internalL [97] 5 = [2, 97, 0, 1, 255, 255, 255, 255, 255, 255, 255, 250] := by decide +kernel
theorem kFinT (z : Nat) (h : z = (runX 1 0 [kA0, kA1, kA2, kA3, kA4, kA5, kA6, kA7, kA8]).1.outL.length) : finT (runX 1 0 [kA0, kA1, kA2, kA3, kA4, kA5, kA6, kA7, kA8]) = ⟨1, 0, 1, z, [97], [97], 5, 5⟩ := by
  have hne : (runX 1 0 [kA0, kA1, kA2, kA3, kA4, kA5, kA6, kA7, kA8]).2.2 ≠ [] := by rw [kOwn]; decide
  rw [finT_own hne, kOwn, kOut, List.nil_append, ← h]
  rfl
theorem conv_zeros (n : Nat) (w : World) (cap : Nat) : (convert 34 9 (.slice (some ⟨w.heap.size, 0, none⟩) n cap)).run Tryd.prog (w.alloc (.cells ((List.replicate n (0 : UInt8)).map B8).toArray 5)) = .ok (.string (bs (List.replicate n 0))) (w.alloc (.cells ((List.replicate n (0 : UInt8)).map B8).toArray 5)) := by
  have h := conv_back (w := w.alloc (.cells ((List.replicate n (0 : UInt8)).map B8).toArray 5)) (g := w.heap.size) (cap := cap) (l := List.replicate n 0) (fun j hj => by
    rw [List.length_replicate] at hj
    have h1 := (Blk.new w 5 ((List.replicate n (0 : UInt8)).map B8).toArray).cell j
    rw [h1]
    simp [hj, B8])
  rw [List.length_replicate] at h
  exact h
set_option maxRecDepth 100000 in
set_option maxHeartbeats 4000000 in
theorem Known_any (w : World) (hG : Gl w) : Calls Tryd.prog 3 #[] w fun e w' => e = .returned (.bool true) ∧ Below w.heap.size w w' := by
  have hawk := Lib.hid awake_any
  have hGl := hG.lt
  have hnew := Lib.hid (New_any 1 0 w)
  have hb0 : bs [] = ⟨#[]⟩ := rfl
  go_enter Tryd.func3, Tryd.ntmps3
  go_wp2_with fail
  refine hnew.out.mono ?_
  rintro e w1 ⟨⟨gb, rfl, hB1⟩, hb1⟩
  have hS0 := TSt.new hB1 hb1
  clear hnew hB1 hb1
  have hf0 := Lib.hid (hS0.fin0 rfl)
  go_wp2_with fail
  refine hf0.out.mono ?_
  rintro e v0 ⟨rfl, hT0⟩
  have hS0a := hT0.below ((Below.refl v0.heap.size v0).alloc (Nat.le_refl _) (.cells (tiC ⟨0, 0, 0, 0, [], [], 0, 0⟩) 26))
  clear hf0 hS0 hT0
  unfold tiC strV at hS0a ⊢
  have ha0 : Calls Tryd.prog 10 #[.pointer (some ⟨gb, 0, none⟩), .agg #[.string ⟨#[97]⟩, .string ⟨#[120]⟩, .int .u64 5, .bool false]] (v0.alloc (.cells #[.int .u64 0, .int .i64 0, .int .i64 0, .int .i64 0, .string ⟨#[]⟩, .string ⟨#[]⟩, .int .u64 0, .int .u64 0] 26)) fun r w' => r = .returned (.tuple #[.string ⟨#[]⟩, .int .i64 0]) ∧ TSt w w' 1 0 gb [kA0] (.slice none 0 0) [] := by
    have h := hS0a.add hG (by decide) kA0 (by decide)
    rw [kE0, kP0] at h
    exact h
  replace ha0 := Lib.hid ha0
  go_wp2_with fail
  refine ha0.out.mono ?_
  rintro e v1 ⟨rfl, hS1⟩
  clear ha0
  have ha1 : Calls Tryd.prog 10 #[.pointer (some ⟨gb, 0, none⟩), .agg #[.string ⟨#[97]⟩, .string ⟨#[]⟩, .int .u64 6, .bool false]] v1 fun r w' => r = .returned (.tuple #[.string ⟨#[]⟩, .int .i64 1]) ∧ TSt w w' 1 0 gb [kA0, kA1] (.slice none 0 0) [] := by
    have h := hS1.add hG (by decide) kA1 (by decide)
    rw [kE1, kP1] at h
    exact h
  replace ha1 := Lib.hid ha1
  go_wp2_with fail
  refine ha1.out.mono ?_
  rintro e v2 ⟨rfl, hS2⟩
  clear ha1
  have ha2 : Calls Tryd.prog 10 #[.pointer (some ⟨gb, 0, none⟩), .agg #[.string ⟨#[97]⟩, .string ⟨#[]⟩, .int .u64 5, .bool false]] v2 fun r w' => r = .returned (.tuple #[.string ⟨#[]⟩, .int .i64 1]) ∧ TSt w w' 1 0 gb [kA0, kA1, kA2] (.slice none 0 0) [] := by
    have h := hS2.add hG (by decide) kA2 (by decide)
    rw [kE2, kP2] at h
    exact h
  replace ha2 := Lib.hid ha2
  go_wp2_with fail
  refine ha2.out.mono ?_
  rintro e v3 ⟨rfl, hS3⟩
  clear ha2
  have ha3 : Calls Tryd.prog 10 #[.pointer (some ⟨gb, 0, none⟩), .agg #[.string ⟨#[]⟩, .string ⟨#[]⟩, .int .u64 1, .bool false]] v3 fun r w' => r = .returned (.tuple #[.string ⟨#[]⟩, .int .i64 1]) ∧ TSt w w' 1 0 gb [kA0, kA1, kA2, kA3] (.slice none 0 0) [] := by
    have h := hS3.add hG (by decide) kA3 (by decide)
    rw [kE3, kP3] at h
    exact h
  replace ha3 := Lib.hid ha3
  go_wp2_with fail
  refine ha3.out.mono ?_
  rintro e v4 ⟨rfl, hS4⟩
  clear ha3
  have ha4 : Calls Tryd.prog 10 #[.pointer (some ⟨gb, 0, none⟩), .agg #[.string ⟨#[98]⟩, .string ⟨#[]⟩, .int .u64 0, .bool false]] v4 fun r w' => r = .returned (.tuple #[.string ⟨#[]⟩, .int .i64 1]) ∧ TSt w w' 1 0 gb [kA0, kA1, kA2, kA3, kA4] (.slice none 0 0) [] := by
    have h := hS4.add hG (by decide) kA4 (by decide)
    rw [kE4, kP4] at h
    exact h
  replace ha4 := Lib.hid ha4
  go_wp2_with fail
  refine ha4.out.mono ?_
  rintro e v5 ⟨rfl, hS5⟩
  clear ha4
  have ha5 : Calls Tryd.prog 10 #[.pointer (some ⟨gb, 0, none⟩), .agg #[.string ⟨#[98]⟩, .string ⟨#[]⟩, .int .u64 9223372036854775809, .bool false]] v5 fun r w' => r = .returned (.tuple #[.string ⟨#[]⟩, .int .i64 1]) ∧ TSt w w' 1 0 gb [kA0, kA1, kA2, kA3, kA4, kA5] (.slice none 0 0) [] := by
    have h := hS5.add hG (by decide) kA5 (by decide)
    rw [kE5, kP5] at h
    exact h
  replace ha5 := Lib.hid ha5
  go_wp2_with fail
  refine ha5.out.mono ?_
  rintro e v6 ⟨rfl, hS6⟩
  clear ha5
  have ha6 : Calls Tryd.prog 10 #[.pointer (some ⟨gb, 0, none⟩), .agg #[.string ⟨#[98]⟩, .string ⟨#[120]⟩, .int .u64 1, .bool true]] v6 fun r w' => r = .returned (.tuple #[.string ⟨#[]⟩, .int .i64 1]) ∧ TSt w w' 1 0 gb [kA0, kA1, kA2, kA3, kA4, kA5, kA6] (.slice none 0 0) [] := by
    have h := hS6.add hG (by decide) kA6 (by decide)
    rw [kE6, kP6] at h
    exact h
  replace ha6 := Lib.hid ha6
  go_wp2_with fail
  refine ha6.out.mono ?_
  rintro e v7 ⟨rfl, hS7⟩
  clear ha6
  obtain ⟨K7, hK7⟩ : ∃ K, K = bs (List.replicate 65 0) := ⟨_, rfl⟩
  obtain ⟨W7, hW7⟩ : ∃ W, W = v7.alloc (.cells ((List.replicate 65 (0 : UInt8)).map B8).toArray 5) := ⟨_, rfl⟩
  have hmk : (Instr.makeSlice 34 (.int .i64 65) (.int .i64 65)).run Tryd.prog v7 = .ok (.slice (some ⟨v7.heap.size, 0, none⟩) 65 65) W7 := by rw [hW7]; exact make_bytes v7 65 (by decide)
  have hcv : (convert 34 9 (.slice (some ⟨v7.heap.size, 0, none⟩) 65 65)).run Tryd.prog W7 = .ok (.string K7) W7 := by rw [hW7, hK7]; exact conv_zeros 65 v7 65
  have hS7c := hS7.below ((Below.refl v7.heap.size v7).alloc (Nat.le_refl _) (.cells ((List.replicate 65 (0 : UInt8)).map B8).toArray 5))
  rw [← hW7] at hS7c
  replace hW7 := Lib.hid hW7
  replace hK7 := Lib.hid hK7
  have ha7 : Calls Tryd.prog 10 #[.pointer (some ⟨gb, 0, none⟩), .agg #[.string K7, .string ⟨#[]⟩, .int .u64 1, .bool false]] W7 fun r w' => r = .returned (.tuple #[.string ⟨#[]⟩, .int .i64 3]) ∧ TSt w w' 1 0 gb [kA0, kA1, kA2, kA3, kA4, kA5, kA6, kA7] (.slice none 0 0) [] := by
    have h := hS7c.add hG (by decide) kA7 (by decide)
    rw [kE7, kP7] at h
    rw [hK7.out]; exact h
  replace ha7 := Lib.hid ha7
  go_wp2_with fail
  refine ha7.out.mono ?_
  rintro e v8 ⟨rfl, hS8⟩
  clear ha7 hmk hcv
  obtain ⟨K8, hK8⟩ : ∃ K, K = bs (List.replicate 513 0) := ⟨_, rfl⟩
  obtain ⟨W8, hW8⟩ : ∃ W, W = v8.alloc (.cells ((List.replicate 513 (0 : UInt8)).map B8).toArray 5) := ⟨_, rfl⟩
  have hmk : (Instr.makeSlice 34 (.int .i64 513) (.int .i64 513)).run Tryd.prog v8 = .ok (.slice (some ⟨v8.heap.size, 0, none⟩) 513 513) W8 := by rw [hW8]; exact make_bytes v8 513 (by decide)
  have hcv : (convert 34 9 (.slice (some ⟨v8.heap.size, 0, none⟩) 513 513)).run Tryd.prog W8 = .ok (.string K8) W8 := by rw [hW8, hK8]; exact conv_zeros 513 v8 513
  have hS8c := hS8.below ((Below.refl v8.heap.size v8).alloc (Nat.le_refl _) (.cells ((List.replicate 513 (0 : UInt8)).map B8).toArray 5))
  rw [← hW8] at hS8c
  replace hW8 := Lib.hid hW8
  replace hK8 := Lib.hid hK8
  have ha8 : Calls Tryd.prog 10 #[.pointer (some ⟨gb, 0, none⟩), .agg #[.string ⟨#[98]⟩, .string K8, .int .u64 1, .bool false]] W8 fun r w' => r = .returned (.tuple #[.string ⟨#[]⟩, .int .i64 3]) ∧ TSt w w' 1 0 gb [kA0, kA1, kA2, kA3, kA4, kA5, kA6, kA7, kA8] (.slice none 0 0) [] := by
    have h := hS8c.add hG (by decide) kA8 (by decide)
    rw [kE8, kP8] at h
    rw [hK8.out]; exact h
  replace ha8 := Lib.hid ha8
  go_wp2_with fail
  refine ha8.out.mono ?_
  rintro e v9 ⟨rfl, hS9⟩
  clear ha8 hmk hcv
  have hne : (runX 1 0 [kA0, kA1, kA2, kA3, kA4, kA5, kA6, kA7, kA8]).2.2 ≠ [] := by rw [kOwn]; decide
  have hfd := hS9.finD hG (by decide) hne
  obtain ⟨S, hSe⟩ : ∃ S, S = (runX 1 0 [kA0, kA1, kA2, kA3, kA4, kA5, kA6, kA7, kA8]).1.outL := ⟨_, rfl⟩
  rw [kFinT S.length (by rw [hSe]), ← hSe] at hfd
  replace hfd := Lib.hid hfd
  replace hne := Lib.hid hne
  replace hSe := Lib.hid hSe
  go_wp2_with fail
  refine hfd.out.mono ?_
  rintro e va ⟨rfl, hDa, hba⟩
  unfold tiC strV
  go_wp2_with fail
  have hX := Blk.new va 26 #[.int .u64 1, .int .i64 0, .int .i64 1, .int .i64 (S.length : Nat), .string (bs [97]), .string (bs [97]), .int .u64 5, .int .u64 5]
  have hbal : Below va.heap.size va (va.alloc (.cells #[.int .u64 1, .int .i64 0, .int .i64 1, .int .i64 (S.length : Nat), .string (bs [97]), .string (bs [97]), .int .u64 5, .int .u64 5] 26)) := (Below.refl _ _).alloc (Nat.le_refl _) _
  have hDb := hDa.below hbal
  have hbb := hba.trans (hbal.mono hba.size)
  generalize hqb : va.alloc (.cells #[.int .u64 1, .int .i64 0, .int .i64 1, .int .i64 (S.length : Nat), .string (bs [97]), .string (bs [97]), .int .u64 5, .int .u64 5] 26) = vb at *
  replace hqb := Lib.hid hqb
  clear hbal hDa hba
  refine (show Calls Tryd.prog 10 #[.pointer (some ⟨gb, 0, none⟩), .agg #[.string ⟨#[122]⟩, .string ⟨#[]⟩, .int .u64 1, .bool false]] vb (fun r w' => r = .returned (.tuple #[.string ⟨#[]⟩, .int .i64 9]) ∧ Below vb.heap.size vb w') from hDb.add ⟨[122], [], 1, false⟩).mono ?_
  rintro e vc ⟨rfl, hbc⟩
  have hDc := hDb.below hbc
  have hbc0 := hbb.trans (hbc.mono hbb.size)
  have hXc := hX.below hbc hX.lt
  have hfm := Lib.hid hDc.fin
  clear hDb hbc hbb hX
  go_wp2_with fail
  refine hfm.out.mono ?_
  rintro e vd ⟨rfl, hbd⟩
  have hXd := hXc.below hbd hXc.lt
  have hbd0 := hbc0.trans (hbd.mono hbc0.size)
  have hbal : Below vd.heap.size vd (vd.alloc (.cells #[.int .u64 0, .int .i64 0, .int .i64 0, .int .i64 0, .string ⟨#[]⟩, .string ⟨#[]⟩, .int .u64 0, .int .u64 0] 26)) := (Below.refl _ _).alloc (Nat.le_refl _) _
  have hXe := hXd.below hbal hXd.lt
  have hbe0 := hbd0.trans (hbal.mono hbd0.size)
  have z2 := hXe.cell 2
  have z3 := hXe.cell 3
  have hle := hXe.lt
  have hle2 := hXd.lt
  simp only [List.getElem?_toArray, List.getElem?_cons_zero, List.getElem?_cons_succ] at z2 z3
  have z2d := hXd.cell 2
  have z3d := hXd.cell 3
  simp only [List.getElem?_toArray, List.getElem?_cons_zero, List.getElem?_cons_succ] at z2d z3d
  have hSs : ((S.length : Nat) : Int) = ((bs S).size : Nat) := by rw [bs_size]
  clear hfm hbal hXc hbc0
  unfold tiC strV
  go_wp2_with fail
  generalize hqe : vd.alloc (.cells #[.int .u64 0, .int .i64 0, .int .i64 0, .int .i64 0, .string ⟨#[]⟩, .string ⟨#[]⟩, .int .u64 0, .int .u64 0] 26) = ve at *
  replace hqe := Lib.hid hqe
  clear z2 z3 z2d z3d hXe hXd hle hle2 hbd0
  refine (show Calls Tryd.prog 10 #[.pointer none, .agg #[.string ⟨#[97]⟩, .string ⟨#[]⟩, .int .u64 1, .bool false]] ve (fun r w' => r = .returned (.tuple #[.string ⟨#[]⟩, .int .i64 2]) ∧ Below ve.heap.size ve w') from TAdd_nil ⟨[97], [], 1, false⟩ ve).mono ?_
  rintro e vf ⟨rfl, hbf⟩
  have hbf0 := hbe0.trans (hbf.mono hbe0.size)
  clear hbf hbe0
  have hfn := Lib.hid (TFin_nil vf)
  go_wp2_with fail
  refine hfn.out.mono ?_
  rintro e vg ⟨rfl, hbg⟩
  have hbg0 := hbf0.trans (hbg.mono hbf0.size)
  have hbh0 := hbg0.alloc hbg0.size (.cells #[.int .u64 0, .int .i64 0, .int .i64 0, .int .i64 0, .string ⟨#[]⟩, .string ⟨#[]⟩, .int .u64 0, .int .u64 0] 26)
  clear hfn hbg hbf0 hbg0
  unfold tiC strV
  go_wp2_with fail
  generalize hqh : vg.alloc (.cells #[.int .u64 0, .int .i64 0, .int .i64 0, .int .i64 0, .string ⟨#[]⟩, .string ⟨#[]⟩, .int .u64 0, .int .u64 0] 26) = vh at *
  replace hqh := Lib.hid hqh
  refine (TGet_nil ⟨#[97]⟩ 1 vh).mono ?_
  rintro e vi ⟨rfl, hbi⟩
  have hbi0 := hbh0.trans (hbi.mono hbh0.size)
  have hbj0 := hbi0.alloc hbi0.size (.cells #[.string ⟨#[]⟩, .string ⟨#[]⟩, .int .u64 0, .bool false] 33)
  clear hbi hbh0 hbi0
  unfold entV
  simp only [Option.getD, Option.isSome]
  unfold entC ent0
  go_wp2_with fail
  generalize hqj : vi.alloc (.cells #[.string ⟨#[]⟩, .string ⟨#[]⟩, .int .u64 0, .bool false] 33) = vj at *
  replace hqj := Lib.hid hqj
  have hGj := hG.below hbj0 hGl
  have hop := TOpen_any ⟨#[]⟩ vj (by decide) hGj
  rw [show (⟨#[]⟩ : ByteArray).data.toList = [] from rfl, show openT [] = none from rfl] at hop
  refine hop.mono ?_
  rintro e vk ⟨hOp, hbk⟩
  have hOp2 : e = .returned (.tuple #[.pointer none, .int .i64 8]) := hOp
  subst hOp2
  have hbk0 := hbj0.trans (hbk.mono hbj0.size)
  clear hOp hop hbk hbj0 hGj
  have hm := Lib.hid (tMay_nil ⟨#[97]⟩ vk)
  go_wp2_with fail
  refine hm.out.mono ?_
  rintro e vl ⟨rfl, hbl⟩
  have hbl0 := hbk0.trans (hbl.mono hbk0.size)
  have hal := Lib.hid (All_nil vl)
  clear hm hbl hbk0
  go_wp2_with fail
  refine hal.out.mono ?_
  rintro e vm ⟨rfl, hbm⟩
  have hbm0 := hbl0.trans (hbm.mono hbl0.size)
  have hrg := Lib.hid (Range_nil ⟨#[]⟩ ⟨#[]⟩ vm)
  clear hal hbm hbl0
  go_wp2_with fail
  refine hrg.out.mono ?_
  rintro e vn ⟨rfl, hbn⟩
  have hbn0 := hbm0.trans (hbn.mono hbm0.size)
  have hin := Internal_any ⟨#[97]⟩ 5 vn (hG.below hbn0 hGl) (by decide) (by decide)
  rw [show (⟨#[97]⟩ : ByteArray).data.toList = [97] from rfl, kInt] at hin
  replace hin := Lib.hid hin
  clear hrg hbn hbm0
  go_wp2_with fail
  refine hin.out.mono ?_
  rintro e vo ⟨rfl, hbo⟩
  have hbo0 := hbn0.trans (hbo.mono hbn0.size)
  have haw := Lib.hid (hawk.out vo (hG.below hbo0 hGl))
  have hik : (bs [2, 97, 0, 1, 255, 255, 255, 255, 255, 255, 255, 250]).toList = [2, 97, 0, 1, 255, 255, 255, 255, 255, 255, 255, 250] := bs_toList _
  clear hin hbo hbn0
  go_wp2_with fail
  refine haw.out.mono ?_
  rintro e vp ⟨rfl, hbp⟩
  go_wp2_with fail
  go_ret
  exact ⟨rfl, hbo0.trans (hbp.mono hbo0.size)⟩
end Go.Proofs.YtfnlponoakhegaaDoor
