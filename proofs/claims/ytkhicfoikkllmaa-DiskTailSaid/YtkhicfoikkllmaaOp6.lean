/- Contracts: Delete, Rename, Start, Fuse, Read. -/
import Derived.Test.YtkhicfoikkllmaaOp5
namespace Go.Proofs.Ytkhicfoikkllmaa
open Go.RowKit
set_option linter.unusedVariables false
set_option linter.unusedSimpArgs false
set_option maxRecDepth 100000 in
set_option maxHeartbeats 2000000 in
theorem Delete_any {w : World} {F : Nat → Prop} {d : Nat} {L : Lay} {s : Dsk} (h : DskAt w F d L s) (ok : s.Ok) (n : ByteArray) (hn : n.size ≤ maxLen) (hnl : s.names.length < 1073741824) (hl : s.chg.length < 1073741824) :
    Calls Try.prog 28 #[.pointer (some ⟨d, 0, none⟩), .string n] w fun e w' => e = .returned (.int .i64 ((s.delete n.data.toList).2 : Nat)) ∧ Went w w' F d (s.delete n.data.toList).1 := by
  rcases Bool.eq_false_or_eq_true s.off with ho | ho
  · have hR : s.delete n.data.toList = (s, 7) := by unfold Dsk.delete; rw [if_pos ho]
    rw [hR]
    clear hR
    have hf := Lib.hid (file_off h n hn ho)
    replace ho := Lib.hid ho
    replace hn := Lib.hid hn
    go_enter Try.func28, Try.ntmps28
    go_wp2_with fail
    refine hf.out.mono ?_
    rintro e w' ⟨rfl, rfl⟩
    go_wp2_with fail
    go_ret
    exact ⟨rfl, .of (KeptBut.refl _ _) h⟩
  · cases hg : getM n.data.toList s.names with
    | none =>
      have hR : s.delete n.data.toList = (s, 4) := by unfold Dsk.delete; rw [if_neg (by rw [ho]; decide), hg]
      rw [hR]
      clear hR
      have hf := Lib.hid (file_none h n hn ho hg)
      replace ho := Lib.hid ho
      replace hg := Lib.hid hg
      replace hn := Lib.hid hn
      go_enter Try.func28, Try.ntmps28
      go_wp2_with fail
      refine hf.out.mono ?_
      rintro e w' ⟨rfl, rfl⟩
      go_wp2_with fail
      go_ret
      exact ⟨rfl, .of (KeptBut.refl _ _) h⟩
    | some i =>
      have hR : s.delete n.data.toList = s.changed ⟨n.data.toList, [], none⟩ := by unfold Dsk.delete; rw [if_neg (by rw [ho]; decide), hg]
      rw [hR, changed_err]
      clear hR
      have hlen := getM_len hg (fun p hp => (ok.names p hp).1)
      have hf := Lib.hid (file_some h n hn ho hg)
      replace ho := Lib.hid ho
      replace hg := Lib.hid hg
      replace hn := Lib.hid hn
      have hcall := changed_any h ok ⟨n.data.toList, [], none⟩ hlen (by simp) (by simp) (fun i hi => by cases hi) hnl hl
      unfold chgVal at hcall
      simp only [Option.map_none, ptrV, bs_of] at hcall
      replace hcall := Lib.hid hcall
      clear hlen
      go_enter Try.func28, Try.ntmps28
      go_wp2_with fail
      refine hf.out.mono ?_
      rintro e w' ⟨rfl, rfl⟩
      go_wp2_with fail
      refine hcall.out.mono ?_
      rintro e w3 ⟨rfl, hw⟩
      replace hw := Lib.hid hw
      go_wp2_with fail
      go_ret
      exact ⟨rfl, hw.out⟩
set_option maxRecDepth 100000 in
set_option maxHeartbeats 2000000 in
theorem Rename_any {w : World} {F : Nat → Prop} {d : Nat} {L : Lay} {s : Dsk} (h : DskAt w F d L s) (ok : s.Ok) (n m : ByteArray) (hn : n.size ≤ maxLen) (hnl : s.names.length < 1073741824) (hl : s.chg.length < 1073741824) :
    Calls Try.prog 27 #[.pointer (some ⟨d, 0, none⟩), .string n, .string m] w fun e w' => e = .returned (.int .i64 ((s.rename n.data.toList m.data.toList).2 : Nat)) ∧ Went w w' F d (s.rename n.data.toList m.data.toList).1 := by
  have hr := Lib.hid (right_any m)
  rcases Bool.eq_false_or_eq_true s.off with ho | ho
  · have hR : s.rename n.data.toList m.data.toList = (s, 7) := by unfold Dsk.rename; rw [if_pos ho]
    rw [hR]
    clear hR
    have hf := Lib.hid (file_off h n hn ho)
    replace ho := Lib.hid ho
    replace hn := Lib.hid hn
    go_enter Try.func27, Try.ntmps27
    go_wp2_with fail
    refine hf.out.mono ?_
    rintro e w' ⟨rfl, rfl⟩
    go_wp2_with fail
    go_ret
    exact ⟨rfl, .of (KeptBut.refl _ _) h⟩
  · rcases Bool.eq_false_or_eq_true (rightB m.data.toList) with hb | hb
    · rw [hb] at hr
      cases hg : getM n.data.toList s.names with
      | none =>
        have hR : s.rename n.data.toList m.data.toList = (s, 4) := by unfold Dsk.rename; rw [if_neg (by rw [ho]; decide), if_pos hb, hg]
        rw [hR]
        clear hR
        have hf := Lib.hid (file_none h n hn ho hg)
        replace ho := Lib.hid ho
        replace hg := Lib.hid hg
        replace hn := Lib.hid hn
        replace hb := Lib.hid hb
        go_enter Try.func27, Try.ntmps27
        go_wp2_with fail
        refine hf.out.mono ?_
        rintro e w' ⟨rfl, rfl⟩
        go_wp2_with fail
        refine (hr.out _).mono ?_
        rintro e w1 ⟨rfl, hb1⟩
        go_wp2_with fail
        go_ret
        exact ⟨rfl, .of (KeptBut.of_below hb1) (h.below hb1)⟩
      | some i =>
        have hlen := getM_len hg (fun p hp => (ok.names p hp).1)
        have hlen2 := rightB_len hb
        have hf := Lib.hid (file_some h n hn ho hg)
        by_cases hab : n = m
        · have hR : s.rename n.data.toList m.data.toList = (s.burn, if s.burn.off then 7 else 0) := by unfold Dsk.rename; rw [if_neg (by rw [ho]; decide), if_pos hb, hg]; exact if_pos (by rw [hab])
          have hE : (((s.burn, if s.burn.off then 7 else 0) : Dsk × Nat).2 : Int) = errB s.burn.off := by unfold errB; cases s.burn.off <;> rfl
          rw [hR, hE]
          subst hab
          clear hR hE
          replace ho := Lib.hid ho
          replace hg := Lib.hid hg
          replace hn := Lib.hid hn
          replace hb := Lib.hid hb
          go_enter Try.func27, Try.ntmps27
          go_wp2_with fail
          refine hf.out.mono ?_
          rintro e w' ⟨rfl, rfl⟩
          go_wp2_with fail
          refine (hr.out _).mono ?_
          rintro e w1 ⟨rfl, hb1⟩
          have h1 := h.below hb1
          have hcall := burns_any h1 ok
          replace hcall := Lib.hid hcall
          go_wp2_with fail
          refine hcall.out.mono ?_
          rintro e w3 ⟨rfl, hD, hk⟩
          replace hk := Lib.hid hk
          go_wp2_with fail
          go_ret
          exact ⟨rfl, .of ((KeptBut.of_below hb1).trans hk.out (fun k _ e => e ▸ h.inF.1)) hD⟩
        · have hR : s.rename n.data.toList m.data.toList = s.changed ⟨n.data.toList, m.data.toList, some i⟩ := by unfold Dsk.rename; rw [if_neg (by rw [ho]; decide), if_pos hb, hg]; exact if_neg (fun e => hab (WideShapes.bytes_inj e))
          rw [hR, changed_err]
          clear hR
          have hab1 : (n.toList == m.toList) = false := by
            rw [ByteArray.toList_eq, ByteArray.toList_eq]
            simpa using fun e => hab (WideShapes.bytes_inj (by simpa using e))
          replace ho := Lib.hid ho
          replace hg := Lib.hid hg
          replace hn := Lib.hid hn
          replace hb := Lib.hid hb
          replace hab := Lib.hid hab
          go_enter Try.func27, Try.ntmps27
          go_wp2_with fail
          refine hf.out.mono ?_
          rintro e w' ⟨rfl, rfl⟩
          go_wp2_with fail
          refine (hr.out _).mono ?_
          rintro e w1 ⟨rfl, hb1⟩
          have h1 := h.below hb1
          have hcall := changed_any h1 ok ⟨n.data.toList, m.data.toList, some i⟩ hlen hlen2 (by simp) (fun j hj => by injection hj with hj; subst hj; exact h1.live.1 _ (getM_mem hg.out)) hnl hl
          unfold chgVal at hcall
          simp only [Option.map_some, ptrV, bs_of] at hcall
          replace hcall := Lib.hid hcall
          clear hlen hlen2
          have hs1 := hb1.size
          go_wp2_with fail
          refine hcall.out.mono ?_
          rintro e w3 ⟨rfl, hw⟩
          replace hw := Lib.hid hw
          go_wp2_with fail
          go_ret
          exact ⟨rfl, hw.out.pull (KeptBut.of_below hb1) (fun k e => .inl e)⟩
    · have hR : s.rename n.data.toList m.data.toList = (s, 1) := by unfold Dsk.rename; rw [if_neg (by rw [ho]; decide), if_neg (by rw [hb]; decide)]
      rw [hR]
      clear hR
      rw [hb] at hr
      cases hg : getM n.data.toList s.names with
      | none =>
        have hf := Lib.hid (file_none h n hn ho hg)
        replace ho := Lib.hid ho
        replace hg := Lib.hid hg
        replace hn := Lib.hid hn
        replace hb := Lib.hid hb
        go_enter Try.func27, Try.ntmps27
        go_wp2_with fail
        refine hf.out.mono ?_
        rintro e w' ⟨rfl, rfl⟩
        go_wp2_with fail
        refine (hr.out _).mono ?_
        rintro e w1 ⟨rfl, hb1⟩
        go_wp2_with fail
        go_ret
        exact ⟨rfl, .of (KeptBut.of_below hb1) (h.below hb1)⟩
      | some i =>
        have hf := Lib.hid (file_some h n hn ho hg)
        replace ho := Lib.hid ho
        replace hg := Lib.hid hg
        replace hn := Lib.hid hn
        replace hb := Lib.hid hb
        go_enter Try.func27, Try.ntmps27
        go_wp2_with fail
        refine hf.out.mono ?_
        rintro e w' ⟨rfl, rfl⟩
        go_wp2_with fail
        refine (hr.out _).mono ?_
        rintro e w1 ⟨rfl, hb1⟩
        go_wp2_with fail
        go_ret
        exact ⟨rfl, .of (KeptBut.of_below hb1) (h.below hb1)⟩
set_option maxRecDepth 100000 in
set_option maxHeartbeats 1000000 in
theorem Start_any {w : World} {F : Nat → Prop} {d : Nat} {L : Lay} {s : Dsk} (h : DskAt w F d L s) :
    Calls Try.prog 13 #[.pointer (some ⟨d, 0, none⟩)] w fun e w' => e = .returned (.tuple #[]) ∧ DskAt w' F d L s.start ∧ KeptBut w w' (fun k => k = d) := by
  have hn := Lib.hid (none_any h)
  have c4 := h.box.cell 4
  have f4 := h.box.frozen 4
  have hK : KeptBut w (w.setCell ⟨d, 4, none⟩ (.bool false)) (fun k => k = d) := (KeptBut.refl w (fun k => k = d)).then_set rfl
  have hD : DskAt (w.setCell ⟨d, 4, none⟩ (.bool false)) F d L s.start := h.rebox hK (by simpa [Dsk.start] using h.box.set_ 4 (.bool false)) rfl rfl rfl rfl
  replace hK := Lib.hid hK
  replace hD := Lib.hid hD
  go_enter Try.func13, Try.ntmps13
  go_wp2_with fail
  refine hn.out.mono ?_
  rintro e w' ⟨rfl, rfl⟩
  go_wp2_with fail
  go_end0
  exact ⟨rfl, hD.out, hK.out⟩
set_option maxRecDepth 100000 in
set_option maxHeartbeats 1000000 in
theorem Fuse_any {w : World} {F : Nat → Prop} {d : Nat} {L : Lay} {s : Dsk} (h : DskAt w F d L s) (n : Int) :
    Calls Try.prog 14 #[.pointer (some ⟨d, 0, none⟩), .int .i64 n] w fun e w' => e = .returned (.tuple #[]) ∧ DskAt w' F d L (s.setFuse n) ∧ KeptBut w w' (fun k => k = d) := by
  have hn := Lib.hid (none_any h)
  have c5 := h.box.cell 5
  have f5 := h.box.frozen 5
  have hK := fun v => (KeptBut.refl w (fun k => k = d)).then_set (o := 5) (v := v) (b := d) rfl
  have hD : DskAt (w.setCell ⟨d, 5, none⟩ (.int .i64 (((max n 0).toNat : Nat) : Int))) F d L (s.setFuse n) := h.rebox (hK _) (by simpa [Dsk.setFuse] using h.box.set_ 5 (.int .i64 (((max n 0).toNat : Nat) : Int))) rfl rfl rfl rfl
  have he : (((max n 0).toNat : Nat) : Int) = max n 0 := by omega
  rw [he] at hD
  clear he
  replace hK := Lib.hid hK
  replace hD := Lib.hid hD
  go_enter Try.func14, Try.ntmps14
  go_wp2_with fail
  refine hn.out.mono ?_
  rintro e w' ⟨rfl, rfl⟩
  go_wp2_with fail
  · go_end0
    exact ⟨rfl, by have := hD.out; rwa [show max n 0 = 0 from by omega] at this, hK.out _⟩
  · go_end0
    exact ⟨rfl, by have := hD.out; rwa [show max n 0 = n from by omega] at this, hK.out _⟩
end Go.Proofs.Ytkhicfoikkllmaa
