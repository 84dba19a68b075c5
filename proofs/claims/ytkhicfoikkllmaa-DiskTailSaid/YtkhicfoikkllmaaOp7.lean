/- Contracts: Sync, Read, Used, Append. -/
import Derived.Test.YtkhicfoikkllmaaOp6
namespace Go.Proofs.Ytkhicfoikkllmaa
open Go.RowKit
set_option linter.unusedVariables false
set_option linter.unusedSimpArgs false
section
variable {w w' : World} {F F' : Nat → Prop} {d : Nat} {L : Lay} {s s' : Dsk}
/-- One file has turned: its box, and maybe its bytes' row. -/
theorem DskAt.setFile (h : DskAt w F d L s) {i : Nat} {f f' : Fil} (hi : s.files[i]? = some f) (hk : KeptBut w w' (fun k => k = L.blk i ∨ (L.row i).ownBlock = some k)) {v : Value}
    (hb : Blk w' (L.blk i) 65 #[v, .int .i64 f'.k]) (ho : OwnB w' 0 v f'.d) (hv : ∀ k, v.ownBlock = some k → (L.row i).ownBlock = some k ∨ (w.heap.size ≤ k ∧ k < w'.heap.size)) (hdi : ¬ L.dead i) :
    DskAt w' (Fx F w w') d { L with row := fun j => if j = i then v else L.row j } { s with files := s.files.set i f' } ∧ KeptBut w w' F := by
  obtain ⟨f1, f2, f3, f4, f5⟩ := h.inF
  have hil := (List.getElem?_eq_some_iff.1 hi).1
  obtain ⟨bi, oi⟩ := h.file i f hi hdi
  refine ⟨⟨?_, ?_, ?_, ?_, fun j g hj dj => ?_, ⟨.inl f1, .inl f2, .inl f3, fun k e => .inl (f4 k e), fun j hj dj => ?_⟩, h.ne, fun a b ha hb' da db e => ?_, ⟨h.live.1, h.live.2.1, h.live.2.2.1, fun j hj => by rw [List.length_set]; exact h.live.2.2.2 j hj⟩, fun a b k ha hb' da db e1 e2 => ?_⟩, hk.mono (fun k _ e => e.elim (fun e => e ▸ (f5 i hil hdi).1) ((f5 i hil hdi).2 k))⟩
  · exact h.box.keptB hk (fun e => e.elim (fun e => blk_ne_blk bi h.box (by decide) e.symm) (fun e => own_ne_blk oi h.box (by decide) _ e rfl))
  · exact h.names.block (hk.block _ h.names.lt (fun e => e.elim (map_ne_blk h.names bi) (fun e => own_ne_map oi h.names _ e rfl)))
  · exact h.last.block (hk.block _ h.last.lt (fun e => e.elim (map_ne_blk h.last bi) (fun e => own_ne_map oi h.last _ e rfl)))
  · exact own_kept h.chg hk (fun k e1 e => e.elim (own_ne_blk h.chg bi (by decide) k e1) (own_ne_own h.chg oi (by decide) k e1))
  · by_cases e : j = i
    · subst e
      rw [List.getElem?_set_self hil] at hj
      injection hj with hj
      subst hj
      dsimp only
      rw [if_pos rfl]
      exact ⟨hb, ho⟩
    · rw [List.getElem?_set_ne (fun e2 => e e2.symm)] at hj
      have hjl := (List.getElem?_eq_some_iff.1 hj).1
      obtain ⟨bj, oj⟩ := h.file j g hj dj
      dsimp only
      rw [if_neg e]
      exact ⟨bj.keptB hk (fun e2 => e2.elim (fun e2 => e (h.inj _ _ hjl hil dj hdi e2)) (fun e2 => own_ne_blk oi bj (by decide) _ e2 rfl)),
        own_kept oj hk (fun k e1 e2 => e2.elim (own_ne_blk oj bi (by decide) k e1) (fun e2 => e (h.rows _ _ k hjl hil dj hdi e1 e2)))⟩
  · simp at hj
    refine ⟨.inl (f5 j hj dj).1, fun k hk' => ?_⟩
    dsimp only at hk'
    by_cases e : j = i
    · rw [if_pos e] at hk'
      rcases hv k hk' with e2 | e2
      · exact .inl ((f5 i hil hdi).2 k e2)
      · exact .inr e2
    · rw [if_neg e] at hk'
      exact .inl ((f5 j hj dj).2 k hk')
  · simp at ha hb'
    exact h.inj a b ha hb' da db e
  · simp at ha hb'
    dsimp only at e1 e2
    have old : ∀ j, j < s.files.length → ¬ L.dead j → ∀ k, (L.row j).ownBlock = some k → k < w.heap.size := fun j hj dj k e => (own_lt (h.file j _ (List.getElem?_eq_getElem hj) dj).2 k e).2
    by_cases ea : a = i <;> by_cases eb : b = i
    · omega
    · rw [if_pos ea] at e1
      rw [if_neg eb] at e2
      rcases hv k e1 with e3 | e3
      · exact absurd (h.rows _ _ k hb' hil db hdi e2 e3) eb
      · have := old b hb' db k e2; omega
    · rw [if_neg ea] at e1
      rw [if_pos eb] at e2
      rcases hv k e2 with e3 | e3
      · exact absurd (h.rows _ _ k ha hil da hdi e1 e3) ea
      · have := old a ha da k e1; omega
    · rw [if_neg ea] at e1
      rw [if_neg eb] at e2
      exact h.rows a b k ha hb' da db e1 e2
end
theorem Dsk.file_at {s : Dsk} (ok : s.Ok) {n : List UInt8} {i : Nat} (hg : getM n s.names = some i) : ∃ f, s.files[i]? = some f ∧ f ∈ s.files := by
  have h := (ok.names _ (getM_mem hg)).2
  exact ⟨s.files[i], List.getElem?_eq_getElem h, List.getElem_mem h⟩
theorem Dsk.setF_at {s : Dsk} {i : Nat} {f : Fil} (g : Fil → Fil) (hi : s.files[i]? = some f) : s.setF i g = { s with files := s.files.set i (g f) } := by
  unfold Dsk.setF
  rw [hi]
set_option maxRecDepth 100000 in
set_option maxHeartbeats 2000000 in
theorem Sync_any {w : World} {F : Nat → Prop} {d : Nat} {L : Lay} {s : Dsk} (h : DskAt w F d L s) (ok : s.Ok) (n : ByteArray) (hn : n.size ≤ maxLen) :
    Calls Try.prog 15 #[.pointer (some ⟨d, 0, none⟩), .string n] w fun e w' => e = .returned (.int .i64 ((s.sync n.data.toList).2 : Nat)) ∧ Went w w' F d (s.sync n.data.toList).1 := by
  rcases Bool.eq_false_or_eq_true s.off with ho | ho
  · have hR : s.sync n.data.toList = (s, 7) := by unfold Dsk.sync; rw [if_pos ho]
    rw [hR]
    clear hR
    have hf := Lib.hid (file_off h n hn ho)
    replace ho := Lib.hid ho
    replace hn := Lib.hid hn
    go_enter Try.func15, Try.ntmps15
    go_wp2_with fail
    refine hf.out.mono ?_
    rintro e w' ⟨rfl, rfl⟩
    go_wp2_with fail
    go_ret
    exact ⟨rfl, .of (KeptBut.refl _ _) h⟩
  · cases hg : getM n.data.toList s.names with
    | none =>
      have hR : s.sync n.data.toList = (s, 4) := by unfold Dsk.sync; rw [if_neg (by rw [ho]; decide), hg]
      rw [hR]
      clear hR
      have hf := Lib.hid (file_none h n hn ho hg)
      replace ho := Lib.hid ho
      replace hg := Lib.hid hg
      replace hn := Lib.hid hn
      go_enter Try.func15, Try.ntmps15
      go_wp2_with fail
      refine hf.out.mono ?_
      rintro e w' ⟨rfl, rfl⟩
      go_wp2_with fail
      go_ret
      exact ⟨rfl, .of (KeptBut.refl _ _) h⟩
    | some i =>
      have hf := Lib.hid (file_some h n hn ho hg)
      have hcall := burns_any h ok
      have hdF := h.inF.1
      rcases Bool.eq_false_or_eq_true s.burn.off with hb | hb
      · have hR : s.sync n.data.toList = (s.burn, 7) := by unfold Dsk.sync; rw [if_neg (by rw [ho]; decide), hg]; exact if_pos hb
        rw [hR]
        rw [hb] at hcall
        simp only [errB, if_true] at hcall
        clear hR
        replace hb := Lib.hid hb
        replace ho := Lib.hid ho
        replace hg := Lib.hid hg
        replace hn := Lib.hid hn
        replace hcall := Lib.hid hcall
        go_enter Try.func15, Try.ntmps15
        go_wp2_with fail
        refine hf.out.mono ?_
        rintro e w' ⟨rfl, rfl⟩
        go_wp2_with fail
        refine hcall.out.mono ?_
        rintro e w1 ⟨rfl, hD, hk⟩
        replace hk := Lib.hid hk
        go_wp2_with fail
        go_ret
        exact ⟨rfl, .of (hk.out.mono (fun k _ e => e ▸ hdF)) hD⟩
      · obtain ⟨f, hi, hfm⟩ := Dsk.file_at ok hg
        have hi1 : s.burn.files[i]? = some f := by rw [Dsk.burn_same.1]; exact hi
        have hR : s.sync n.data.toList = (s.burn.setF i fun f => ⟨f.d, f.d.length⟩, 0) := by unfold Dsk.sync; rw [if_neg (by rw [ho]; decide), hg]; exact if_neg (by rw [hb]; decide)
        rw [hR, Dsk.setF_at _ hi1]
        rw [hb] at hcall
        simp only [errB] at hcall
        clear hR
        replace hb := Lib.hid hb
        replace ho := Lib.hid ho
        replace hg := Lib.hid hg
        replace hn := Lib.hid hn
        replace hi := Lib.hid hi
        replace hi1 := Lib.hid hi1
        replace hcall := Lib.hid hcall
        go_enter Try.func15, Try.ntmps15
        go_wp2_with fail
        refine hf.out.mono ?_
        rintro e w' ⟨rfl, rfl⟩
        go_wp2_with fail
        refine hcall.out.mono ?_
        rintro e w1 ⟨rfl, hD, hk⟩
        have hdi := h.live.1 _ (getM_mem hg.out)
        obtain ⟨bi, oi⟩ := hD.file i f hi1.out hdi
        obtain ⟨A, cap, hv⟩ := oi.form
        have b0 := bi.cell 0
        have b1 := bi.cell 1
        have g1 := bi.frozen 1
        rw [hv] at b0
        have hk2 : KeptBut w1 (w1.setCell ⟨L.blk i, 1, none⟩ (.int .i64 f.d.length)) (fun k => k = L.blk i ∨ (L.row i).ownBlock = some k) := (KeptBut.refl w1 _).then_set (.inl rfl)
        have hset := hD.setFile (f' := ⟨f.d, f.d.length⟩) (v := L.row i) hi1.out hk2 (by simpa using bi.set_ 1 (.int .i64 f.d.length)) (own_block oi fun k hk' => Below.heap_setCell _ _ _ _ (own_ne_blk oi bi (by decide) k hk')) (fun k e => .inl e) hdi
        replace hset := Lib.hid hset
        replace hk := Lib.hid hk
        replace hv := Lib.hid hv
        have hs1 := hk.out.size
        clear hk2
        go_wp2_with fail
        go_ret
        exact ⟨rfl, (hk.out.mono (fun k _ e => e ▸ hdF)).trans hset.out.2 (fun k _ e => e), _, hset.out.1.more (fun k hk => hk.elim .inl (fun e => .inr ⟨by omega, e.2⟩))⟩
set_option maxRecDepth 100000 in
set_option maxHeartbeats 2000000 in
theorem Read_any {w : World} {F : Nat → Prop} {d : Nat} {L : Lay} {s : Dsk} (h : DskAt w F d L s) (ok : s.Ok) (n : ByteArray) (hn : n.size ≤ maxLen) :
    Calls Try.prog 17 #[.pointer (some ⟨d, 0, none⟩), .string n] w fun e w' => e = .returned (.tuple #[.string (bs (s.read n.data.toList).1), .int .i64 ((s.read n.data.toList).2 : Nat)]) ∧ w = w' := by
  rcases Bool.eq_false_or_eq_true s.off with ho | ho
  · have hR : s.read n.data.toList = ([], 7) := by unfold Dsk.read; rw [if_pos ho]
    rw [hR]
    clear hR
    have hf := Lib.hid (file_off h n hn ho)
    replace ho := Lib.hid ho
    replace hn := Lib.hid hn
    go_enter Try.func17, Try.ntmps17
    go_wp2_with fail
    refine hf.out.mono ?_
    rintro e w' ⟨rfl, rfl⟩
    go_wp2_with fail
    go_ret2
    exact ⟨rfl, rfl⟩
  · cases hg : getM n.data.toList s.names with
    | none =>
      have hR : s.read n.data.toList = ([], 4) := by unfold Dsk.read; rw [if_neg (by rw [ho]; decide), hg]
      rw [hR]
      clear hR
      have hf := Lib.hid (file_none h n hn ho hg)
      replace ho := Lib.hid ho
      replace hg := Lib.hid hg
      replace hn := Lib.hid hn
      go_enter Try.func17, Try.ntmps17
      go_wp2_with fail
      refine hf.out.mono ?_
      rintro e w' ⟨rfl, rfl⟩
      go_wp2_with fail
      go_ret2
      exact ⟨rfl, rfl⟩
    | some i =>
      have hf := Lib.hid (file_some h n hn ho hg)
      obtain ⟨f, hi, hfm⟩ := Dsk.file_at ok hg
      have hR : s.read n.data.toList = (f.d, 0) := by unfold Dsk.read; rw [if_neg (by rw [ho]; decide), hg]; simp only [hi]
      rw [hR]
      obtain ⟨bi, oi⟩ := h.file i f hi (h.live.1 _ (getM_mem hg))
      have hrun := oi.text
      have b0 := bi.cell 0
      clear hR
      replace ho := Lib.hid ho
      replace hg := Lib.hid hg
      replace hn := Lib.hid hn
      replace hi := Lib.hid hi
      go_enter Try.func17, Try.ntmps17
      go_wp2_with fail
      refine hf.out.mono ?_
      rintro e w' ⟨rfl, rfl⟩
      go_wp2_with fail
      go_ret2
      exact ⟨rfl, rfl⟩
end Go.Proofs.Ytkhicfoikkllmaa
