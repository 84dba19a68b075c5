/- Contracts: burns, file, does. -/
import Derived.Test.YtkhicfoikkllmaaOwn
import Derived.Lib.Hide
namespace Go.Proofs.Ytkhicfoikkllmaa
open Go.RowKit
set_option linter.unusedVariables false
set_option linter.unusedSimpArgs false
def errB (b : Bool) : Int := if b then 7 else 0
def fileV (L : Lay) (s : Dsk) (n : List UInt8) : Value := if s.off then .tuple #[.pointer none, .int .i64 7] else match getM n s.names with
  | none => .tuple #[.pointer none, .int .i64 4]
  | some i => .tuple #[.pointer (some ⟨L.blk i, 0, none⟩), .int .i64 0]
section
variable {w : World} {F : Nat → Prop} {d : Nat} {L : Lay} {s : Dsk}
set_option maxHeartbeats 400000 in
theorem burns_any (h : DskAt w F d L s) (ok : s.Ok) :
    Calls Try.prog 33 #[.pointer (some ⟨d, 0, none⟩)] w fun e w' => e = .returned (.int .i64 (errB s.burn.off)) ∧ DskAt w' F d L s.burn ∧ KeptBut w w' (fun k => k = d) := by
  have c4 := h.box.cell 4
  have c5 := h.box.cell 5
  have f4 := h.box.frozen 4
  have f5 := h.box.frozen 5
  have hfu := ok.fuse
  have hdl := h.lt
  by_cases hf : 0 < s.fuse
  · have hf' : (0 : Int) < (s.fuse : Int) := by omega
    have hD : DskAt ((w.setCell ⟨d, 5, none⟩ (.int .i64 ((s.fuse : Int) - 1))).setCell ⟨d, 4, none⟩ (.bool ((s.fuse : Int) - 1 == 0))) F d L s.burn := by
      rw [Dsk.burn_pos hf]
      refine h.rebox (((KeptBut.refl w (fun k => k = d)).then_set rfl).then_set rfl) ?_ rfl rfl rfl rfl
      have e2 : (((s.fuse - 1 : Nat) : Nat) : Int) = (s.fuse : Int) - 1 := by omega
      have e3 : (s.fuse - 1 == 0) = ((s.fuse : Int) - 1 == 0) := by rw [Bool.eq_iff_iff]; simp; omega
      have hb := (h.box.set_ 5 (.int .i64 ((s.fuse : Int) - 1))).set_ 4 (.bool ((s.fuse : Int) - 1 == 0))
      simp only [e2, e3]
      simpa using hb
    have hK : KeptBut w ((w.setCell ⟨d, 5, none⟩ (.int .i64 ((s.fuse : Int) - 1))).setCell ⟨d, 4, none⟩ (.bool ((s.fuse : Int) - 1 == 0))) (fun k => k = d) 
      := ((KeptBut.refl w (fun k => k = d)).then_set rfl).then_set rfl
    replace hK := Lib.hid hK
    have hp := power_any hD
    change Calls Try.prog 34 _ _ (fun e w' => e = .returned (.int .i64 (errB s.burn.off)) ∧ _ = w') at hp
    replace hp := Lib.hid hp
    replace hD := Lib.hid hD
    go_enter Try.func33, Try.ntmps33
    go_wp2_with fail
    refine hp.out.mono ?_
    rintro e w' ⟨rfl, rfl⟩
    go_wp2_with fail
    go_ret
    exact ⟨rfl, hD.out, hK.out⟩
  · have hb : s.burn = s := Dsk.burn_zero hf
    have hf' : ¬ (0 : Int) < (s.fuse : Int) := by omega
    rw [hb]
    have hp := power_any h
    change Calls Try.prog 34 _ _ (fun e w' => e = .returned (.int .i64 (errB s.off)) ∧ _ = w') at hp
    replace hp := Lib.hid hp
    replace hb := Lib.hid hb
    go_enter Try.func33, Try.ntmps33
    go_wp2_with fail
    refine hp.out.mono ?_
    rintro e w' ⟨rfl, rfl⟩
    go_wp2_with fail
    go_ret
    exact ⟨rfl, h, KeptBut.refl _ _⟩
set_option maxHeartbeats 400000 in
set_option maxRecDepth 100000 in
theorem file_any (h : DskAt w F d L s) (n : ByteArray) (hn : n.size ≤ maxLen) :
    Calls Try.prog 32 #[.pointer (some ⟨d, 0, none⟩), .string n] w fun e w' => e = .returned (fileV L s n.data.toList) ∧ w = w' := by
  have c1 := h.box.cell 1
  have hl := h.names.look_ok (t := 53) (e := 60) Try.underlying9 Try.underlying53 (zero_file w) hn
  rw [mvM_get] at hl
  have hp := power_any h
  replace hn := Lib.hid hn
  unfold fileV
  cases ho : s.off with
  | true =>
    rw [ho] at hp
    replace ho := Lib.hid ho
    go_enter Try.func32, Try.ntmps32
    go_wp2_with fail
    refine hp.mono ?_
    rintro e w' ⟨rfl, rfl⟩
    go_wp2_with fail
    go_ret2
    exact ⟨rfl, rfl⟩
  | false =>
    rw [ho] at hp
    replace ho := Lib.hid ho
    cases hg : getM n.data.toList s.names with
    | none =>
      rw [hg] at hl
      replace hg := Lib.hid hg
      simp only [Option.map_none, lookV] at hl
      go_enter Try.func32, Try.ntmps32
      go_wp2_with fail
      refine hp.mono ?_
      rintro e w' ⟨rfl, rfl⟩
      go_wp2_with fail
      go_ret2
      exact ⟨rfl, rfl⟩
    | some i =>
      rw [hg] at hl
      replace hg := Lib.hid hg
      simp only [Option.map_some, lookV] at hl
      go_enter Try.func32, Try.ntmps32
      go_wp2_with fail
      refine hp.mono ?_
      rintro e w' ⟨rfl, rfl⟩
      go_wp2_with fail
      go_ret2
      exact ⟨rfl, rfl⟩
end
/-- does, upon a map. -/
def chgVal (g : Nat → Nat) (c : Chg) : Value := .agg #[.string (bs c.fr), .string (bs c.to), ptrV (c.f.map g)]
set_option maxHeartbeats 800000 in
set_option maxRecDepth 100000 in
theorem does_any (w : World) (gm : Nat) (m : NM) (g : Nat → Nat) (c : Chg) (hm : MapAt Try.prog 9 w gm (mvM g m)) (h1 : c.fr.length ≤ 24) (h2 : c.to.length ≤ 24) (h3 : c.to ≠ [] → c.f ≠ none) (hl : m.length < 4294967296) :
    Calls Try.prog 36 #[chgVal g c, .map (some gm)] w fun e w' => e = .returned (.tuple #[]) ∧ MapAt Try.prog 9 w' gm (mvM g (doesC m c)) ∧ KeptBut w w' (fun k => k = gm) := by
  have hA : Below w.heap.size w (w.alloc (.cells #[.string (bs c.fr), .string (bs c.to), ptrV (c.f.map g)] 68)) := (Below.refl _ _).alloc (Nat.le_refl _) _
  have hm1 : MapAt Try.prog 9 (w.alloc (.cells #[.string (bs c.fr), .string (bs c.to), ptrV (c.f.map g)] 68)) gm (mvM g m) := hm.block (hA.block gm hm.lt)
  have hk1 : KeptBut w (w.alloc (.cells #[.string (bs c.fr), .string (bs c.to), ptrV (c.f.map g)] 68)) (fun k => k = gm) := KeptBut.of_below hA
  have s1 : (bs c.fr).size ≤ maxLen := by rw [bs_size]; unfold maxLen; omega
  have s2 : (bs c.to).size ≤ maxLen := by rw [bs_size]; unfold maxLen; omega
  have hlt := hm.lt
  replace hm1 := Lib.hid hm1
  replace hk1 := Lib.hid hk1
  replace s1 := Lib.hid s1
  replace s2 := Lib.hid s2
  obtain ⟨fr, to', f⟩ := c
  unfold doesC chgVal
  simp only [] at *
  by_cases e1 : fr = []
  · subst e1
    have i1 : (!(bs []).toList.isEmpty) = false := by rw [bs_toList]; rfl
    by_cases e2 : to' = []
    · subst e2
      simp only [if_true]
      go_enter Try.func36, Try.ntmps36
      go_wp2_with fail
      go_end0
      exact ⟨rfl, hm1.out, hk1.out⟩
    · obtain ⟨i, rfl⟩ := Option.ne_none_iff_exists'.1 (h3 e2)
      have i2 : (!(bs to').toList.isEmpty) = true := by rw [bs_toList]; simpa using e2
      have hl1 : (mvM g m).length < maxLen := by rw [mvM_len]; unfold maxLen; omega
      rw [if_pos rfl, if_neg e2]
      simp only [Option.map_some, Option.getD_some, ptrV] at *
      replace hl1 := Lib.hid hl1
      replace e2 := Lib.hid e2
      clear h3
      go_enter Try.func36, Try.ntmps36
      go_wp2_with (at_mapUpdate; refine wpList_nm_store _ rfl _ _ _ 53 rfl 9 60 Try.underlying9 Try.underlying53 gm _ rfl hm1.out hl1.out (bs to') (g i) rfl rfl s2.out ?_; intro w3 hm3 ht3)
      have hk3 := hk1.out.then_grown ht3.grown (fun k e => (Option.some.inj e).symm)
      rw [bs_data, ← mvM_put] at hm3
      replace hm3 := Lib.hid hm3
      replace hk3 := Lib.hid hk3
      go_wp2_with fail
      go_end0
      exact ⟨rfl, hm3.out, hk3.out⟩
  · have i1 : (!(bs fr).toList.isEmpty) = true := by rw [bs_toList]; simpa using e1
    by_cases e2 : to' = []
    · subst e2
      have i2 : (!(bs []).toList.isEmpty) = false := by rw [bs_toList]; rfl
      rw [if_neg e1, if_pos rfl]
      replace e1 := Lib.hid e1
      clear h3
      go_enter Try.func36, Try.ntmps36
      go_wp2_with (at_delete; refine wpList_nm_delete _ rfl _ _ 53 9 rfl 60 Try.underlying9 Try.underlying53 gm _ rfl hm1.out (bs fr) rfl s1.out ?_; intro w1 hm2 ht2; have qc := fun o => World.cell?_of_block (a := (⟨w.heap.size, o, none⟩ : Addr)) (ht2.grown.block w.heap.size (by simp) (by simp; omega)))
      have hk2 := hk1.out.then_grown ht2.grown (fun k e => (Option.some.inj e).symm)
      rw [bs_data, ← mvM_del] at hm2
      replace hm2 := Lib.hid hm2
      replace hk2 := Lib.hid hk2
      go_wp2_with fail
      go_end0
      exact ⟨rfl, hm2.out, hk2.out⟩
    · obtain ⟨i, rfl⟩ := Option.ne_none_iff_exists'.1 (h3 e2)
      have i2 : (!(bs to').toList.isEmpty) = true := by rw [bs_toList]; simpa using e2
      rw [if_neg e1, if_neg e2]
      simp only [Option.map_some, Option.getD_some, ptrV] at *
      replace e1 := Lib.hid e1
      replace e2 := Lib.hid e2
      clear h3
      have hl2 : (mvM g (delM fr m)).length < maxLen := by rw [mvM_len]; have := delM_len fr m; unfold maxLen; omega
      replace hl2 := Lib.hid hl2
      go_enter Try.func36, Try.ntmps36
      go_wp2_with (first | (at_delete; refine wpList_nm_delete _ rfl _ _ 53 9 rfl 60 Try.underlying9 Try.underlying53 gm _ rfl hm1.out (bs fr) rfl s1.out ?_; intro w1 hm2 ht2; have qc := fun o => World.cell?_of_block (a := (⟨w.heap.size, o, none⟩ : Addr)) (ht2.grown.block w.heap.size (by simp) (by simp; omega)); rw [bs_data, ← mvM_del] at hm2; replace hm2 := Lib.hid hm2) | (at_mapUpdate; refine wpList_nm_store _ rfl _ _ _ 53 rfl 9 60 Try.underlying9 Try.underlying53 gm _ rfl hm2.out hl2.out (bs to') (g i) rfl rfl s2.out ?_; intro w3 hm3 ht3))
      have hk2 := hk1.out.then_grown ht2.grown (fun k e => (Option.some.inj e).symm)
      have hk3 := hk2.then_grown ht3.grown (fun k e => (Option.some.inj e).symm)
      rw [bs_data, ← mvM_put] at hm3
      go_end0
      exact ⟨rfl, hm3, hk3⟩
end Go.Proofs.Ytkhicfoikkllmaa
