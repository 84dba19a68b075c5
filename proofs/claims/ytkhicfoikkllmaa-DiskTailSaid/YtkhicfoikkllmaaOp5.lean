/- Contracts: Create, Delete. -/
import Derived.Test.YtkhicfoikkllmaaOp4
namespace Go.Proofs.Ytkhicfoikkllmaa
open Go.RowKit
set_option linter.unusedVariables false
set_option linter.unusedSimpArgs false
theorem mvM_congr {g g' : Nat → Nat} {m : NM} (h : ∀ p ∈ m, g p.2 = g' p.2) : mvM g m = mvM g' m := by
  unfold mvM
  exact List.map_congr_left fun p hp => by rw [h p hp]
theorem chgV_congr {g g' : Nat → Nat} {l : List Chg} (h : ∀ c ∈ l, ∀ i, c.f = some i → g i = g' i) : chgV g l = chgV g' l := by
  unfold chgV
  rw [List.flatMap_def, List.flatMap_def, List.map_congr_left fun c hc => ?_]
  have : c.f.map g = c.f.map g' := by
    cases hf : c.f with
    | none => rfl
    | some i => simp only [Option.map_some]; rw [h c hc i hf]
  rw [this]
section
variable {w w' : World} {F F' : Nat → Prop} {d : Nat} {L : Lay} {s s' : Dsk}
theorem Went.pull {w1 : World} (hk : KeptBut w w1 F) (hF : ∀ k, F' k → F k ∨ (w.heap.size ≤ k ∧ k < w1.heap.size)) (h : Went w1 w' F' d s) : Went w w' F d s := by
  obtain ⟨h1, L', h2⟩ := h
  have hs := hk.size
  have hs' := h1.size
  refine ⟨hk.trans h1 (fun k hk' e => (hF k e).elim id (fun e => by omega)), L', h2.more (fun k e => ?_)⟩
  rcases e with e | e
  · rcases hF k e with e | e
    · exact .inl e
    · exact .inr ⟨e.1, by omega⟩
  · exact .inr ⟨by omega, e.2⟩
theorem DskAt.newFile (h : DskAt w F d L s) (ok : s.Ok) :
    DskAt (w.alloc (.cells #[.slice none 0 0, .int .i64 0] 65)) (fun k => F k ∨ k = w.heap.size) d { L with blk := fun i => if i = s.files.length then w.heap.size else L.blk i, row := fun i => if i = s.files.length then .slice none 0 0 else L.row i } { s with files := s.files ++ [⟨[], 0⟩] } := by
  have hA : Below w.heap.size w (w.alloc (.cells #[.slice none 0 0, .int .i64 0] 65)) := (Below.refl _ _).alloc (Nat.le_refl _) _
  have h1 := h.below hA
  obtain ⟨f1, f2, f3, f4, f5⟩ := h.inF
  have hlt : ∀ i, i < s.files.length → ¬ L.dead i → L.blk i < w.heap.size := fun i hi hd => ((h.file i _ (List.getElem?_eq_getElem hi) hd).1).lt
  have hnd : ¬ L.dead s.files.length := fun e => by have := h.live.2.2.2 _ e; omega
  have hne : ∀ i, i < s.files.length → i ≠ s.files.length := fun i hi e => by omega
  refine ⟨h1.box, ?_, ?_, ?_, fun i f hi hd => ?_, ⟨.inl f1, .inl f2, .inl f3, fun k e => .inl (f4 k e), fun i hi hd => ?_⟩, h.ne, fun i j hi hj di dj e => ?_, ⟨h.live.1, h.live.2.1, h.live.2.2.1, fun i hi => by have := h.live.2.2.2 i hi; simp; omega⟩, fun i j k hi hj di dj e1 e2 => ?_⟩
  · rw [mvM_congr (g' := L.blk) (fun p hp => by have := (ok.names p hp).2; simp [hne _ this])]
    exact h1.names
  · rw [mvM_congr (g' := L.blk) (fun p hp => by have := (ok.last p hp).2; simp [hne _ this])]
    exact h1.last
  · rw [chgV_congr (g' := L.blk) (fun c hc i hi => by have := (ok.chg c hc).2.2.1 i hi; simp [hne _ this])]
    exact h1.chg
  · by_cases e : i = s.files.length
    · subst e
      simp at hi
      subst hi
      dsimp only
      rw [if_pos rfl, if_pos rfl]
      exact ⟨Blk.new _ _ _, OwnB.nil _ _⟩
    · dsimp only
      rw [if_neg e, if_neg e]
      rw [List.getElem?_append] at hi
      split at hi
      · exact h1.file i f hi hd
      · have h2 := (List.getElem?_eq_some_iff.1 hi).1
        simp only [List.length_singleton] at h2
        omega
  · by_cases e : i = s.files.length
    · subst e
      dsimp only
      rw [if_pos rfl, if_pos rfl]
      exact ⟨.inr rfl, fun k hk => by cases hk⟩
    · simp only [if_neg e]
      simp at hi
      exact ⟨.inl (f5 i (by omega) hd).1, fun k hk => .inl ((f5 i (by omega) hd).2 k hk)⟩
  · simp at hi hj
    by_cases e1 : i = s.files.length <;> by_cases e2 : j = s.files.length
    · omega
    · simp only [e1, if_true, if_neg e2] at e
      have := hlt j (by omega) dj
      omega
    · simp only [e2, if_true, if_neg e1] at e
      have := hlt i (by omega) di
      omega
    · simp only [if_neg e1, if_neg e2] at e
      exact h.inj i j (by omega) (by omega) di dj e
  · simp at hi hj
    by_cases g1 : i = s.files.length
    · simp only [g1, if_true] at e1
      cases e1
    · by_cases g2 : j = s.files.length
      · simp only [g2, if_true] at e2
        cases e2
      · simp only [if_neg g1] at e1
        simp only [if_neg g2] at e2
        exact h.rows i j k (by omega) (by omega) di dj e1 e2
theorem file_off (h : DskAt w F d L s) (n : ByteArray) (hn : n.size ≤ maxLen) (ho : s.off = true) : Calls Try.prog 32 #[.pointer (some ⟨d, 0, none⟩), .string n] w fun e w' => e = .returned (.tuple #[.pointer none, .int .i64 7]) ∧ w = w' := by
  have := file_any h n hn; unfold fileV at this; rw [ho] at this; exact this
theorem file_none (h : DskAt w F d L s) (n : ByteArray) (hn : n.size ≤ maxLen) (ho : s.off = false) (hg : getM n.data.toList s.names = none) : Calls Try.prog 32 #[.pointer (some ⟨d, 0, none⟩), .string n] w fun e w' => e = .returned (.tuple #[.pointer none, .int .i64 4]) ∧ w = w' := by
  have := file_any h n hn; unfold fileV at this; rw [ho, hg] at this; exact this
theorem file_some (h : DskAt w F d L s) (n : ByteArray) (hn : n.size ≤ maxLen) (ho : s.off = false) {i : Nat} (hg : getM n.data.toList s.names = some i) : Calls Try.prog 32 #[.pointer (some ⟨d, 0, none⟩), .string n] w fun e w' => e = .returned (.tuple #[.pointer (some ⟨L.blk i, 0, none⟩), .int .i64 0]) ∧ w = w' := by
  have := file_any h n hn; unfold fileV at this; rw [ho, hg] at this; exact this
theorem changed_err (s : Dsk) (c : Chg) : (((s.changed c).2 : Nat) : Int) = errB s.burn.off := by
  unfold Dsk.changed errB
  cases s.burn.off <;> rfl
theorem getM_len {k : List UInt8} {m : NM} {v : Nat} (h : getM k m = some v) (hm : ∀ p ∈ m, p.1.length ≤ 24) : k.length ≤ 24 := hm _ (getM_mem h)
end
set_option maxRecDepth 100000 in
set_option maxHeartbeats 2000000 in
theorem Create_any {w : World} {F : Nat → Prop} {d : Nat} {L : Lay} {s : Dsk} (h : DskAt w F d L s) (ok : s.Ok) (n : ByteArray) (hn : n.size ≤ maxLen) (hnl : s.names.length < 1073741824) (hl : s.chg.length < 1073741824) :
    Calls Try.prog 25 #[.pointer (some ⟨d, 0, none⟩), .string n] w fun e w' => e = .returned (.int .i64 ((s.create n.data.toList).2 : Nat)) ∧ Went w w' F d (s.create n.data.toList).1 := by
  rcases Bool.eq_false_or_eq_true s.off with ho | ho
  · have hR : s.create n.data.toList = (s, 7) := by unfold Dsk.create; rw [if_pos ho]
    rw [hR]
    clear hR
    have hf := Lib.hid (file_off h n hn ho)
    replace ho := Lib.hid ho
    replace hn := Lib.hid hn
    go_enter Try.func25, Try.ntmps25
    go_wp2_with fail
    refine hf.out.mono ?_
    rintro e w' ⟨rfl, rfl⟩
    go_wp2_with fail
    go_ret
    exact ⟨rfl, .of (KeptBut.refl _ _) h⟩
  · cases hg : getM n.data.toList s.names with
    | some i =>
      have hR : s.create n.data.toList = (s, 5) := by unfold Dsk.create; rw [if_neg (by rw [ho]; decide), hg]
      rw [hR]
      clear hR
      have hf := Lib.hid (file_some h n hn ho hg)
      replace ho := Lib.hid ho
      replace hg := Lib.hid hg
      replace hn := Lib.hid hn
      go_enter Try.func25, Try.ntmps25
      go_wp2_with fail
      refine hf.out.mono ?_
      rintro e w' ⟨rfl, rfl⟩
      go_wp2_with fail
      go_ret
      exact ⟨rfl, .of (KeptBut.refl _ _) h⟩
    | none =>
      have hf := Lib.hid (file_none h n hn ho hg)
      have hr := Lib.hid (right_any n)
      replace hn := Lib.hid hn
      cases hb : rightB n.data.toList with
      | false =>
        have hR : s.create n.data.toList = (s, 1) := by unfold Dsk.create; rw [if_neg (by rw [ho]; decide), hg]; exact if_neg (by rw [hb]; decide)
        rw [hR]
        clear hR
        rw [hb] at hr
        replace hb := Lib.hid hb
        replace ho := Lib.hid ho
        replace hg := Lib.hid hg
        go_enter Try.func25, Try.ntmps25
        go_wp2_with fail
        refine hf.out.mono ?_
        rintro e w' ⟨rfl, rfl⟩
        go_wp2_with fail
        refine (hr.out _).mono ?_
        rintro e w1 ⟨rfl, hb1⟩
        go_wp2_with fail
        go_ret
        exact ⟨rfl, .of (KeptBut.of_below hb1) (h.below hb1)⟩
      | true =>
        have hR : s.create n.data.toList = ({ s with files := s.files ++ [⟨[], 0⟩] } : Dsk).changed ⟨[], n.data.toList, some s.files.length⟩ := by unfold Dsk.create; rw [if_neg (by rw [ho]; decide), hg]; exact if_pos hb
        rw [hR, changed_err]
        clear hR
        rw [hb] at hr
        have hlen := rightB_len hb
        replace hb := Lib.hid hb
        replace ho := Lib.hid ho
        replace hg := Lib.hid hg
        go_enter Try.func25, Try.ntmps25
        go_wp2_with fail
        refine hf.out.mono ?_
        rintro e w' ⟨rfl, rfl⟩
        go_wp2_with fail
        refine (hr.out _).mono ?_
        rintro e w1 ⟨rfl, hb1⟩
        have h1 := h.below hb1
        have h2 := h1.newFile ok
        have hA : Below w1.heap.size w1 (w1.alloc (.cells #[.slice none 0 0, .int .i64 0] 65)) := (Below.refl _ _).alloc (Nat.le_refl _) _
        have hk := (KeptBut.of_below hb1 (S := F)).then_below hA
        have hcall := changed_any h2 ok.newFile ⟨[], n.data.toList, some s.files.length⟩ (by simp) hlen (by simp) (fun i hi e => by injection hi with hi; subst hi; have := h1.live.2.2.2 _ e; omega) hnl hl
        have hs1 := hb1.size
        unfold chgVal at hcall
        simp only [Option.map_some, ptrV, if_true, bs_of] at hcall
        replace hcall := Lib.hid hcall
        replace hk := Lib.hid hk
        clear h2 h1 hA hlen
        go_wp2_with fail
        refine hcall.out.mono ?_
        rintro e w3 ⟨rfl, hw⟩
        replace hw := Lib.hid hw
        go_wp2_with fail
        go_ret
        exact ⟨rfl, hw.out.pull hk.out (fun k (e : F k ∨ k = w1.heap.size) => e.elim .inl (fun e => .inr ⟨by omega, by simp; omega⟩))⟩
end Go.Proofs.Ytkhicfoikkllmaa
