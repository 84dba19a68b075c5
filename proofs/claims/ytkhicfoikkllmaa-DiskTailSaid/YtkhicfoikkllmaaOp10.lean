/- Contracts: DirSync. -/
import Derived.Test.YtkhicfoikkllmaaOp9
namespace Go.Proofs.Ytkhicfoikkllmaa
open Go.RowKit
set_option linter.unusedVariables false
set_option linter.unusedSimpArgs false
section
variable {w w' : World} {F F' : Nat → Prop} {d : Nat} {L : Lay} {s s' : Dsk}
theorem DskAt.resync (h : DskAt w F d L s) {w3 w4 : World} (hm : MapAt Try.prog 9 w3 w.heap.size (mvM L.blk s.names)) (hb : Below w.heap.size w w3) (hlt : w.heap.size < w3.heap.size)
    (hk : KeptBut w3 w4 (fun k => k = d)) (hbox : Blk w4 d 56 #[.int .i64 s.room, .map (some L.gN), .map (some w.heap.size), .slice none 0 0, .bool s.off, .int .i64 s.fuse]) :
    DskAt w4 (Fx F w w4) d { L with gL := w.heap.size, vC := .slice none 0 0 } { s with last := s.names, chg := [] } ∧ KeptBut w w4 F := by
  obtain ⟨f1, f2, f3, f4, f5⟩ := h.inF
  have h3 := h.below hb
  have hs4 := hk.size
  refine ⟨⟨hbox, ?_, ?_, World.ownsRow_nil _ _ _ _, fun i f hi hd => ?_, ⟨.inl f1, .inl f2, (.inr ⟨Nat.le_refl _, (by show w.heap.size < w4.heap.size; omega)⟩), (fun k e => (by cases e)), fun i hi hd => ⟨.inl (f5 i hi hd).1, fun k e => .inl ((f5 i hi hd).2 k e)⟩⟩, fun e => ?_, h.inj, ⟨h.live.1, h.live.1, (fun x hx => (by cases hx)), h.live.2.2.2⟩, h.rows⟩, (KeptBut.of_below hb (S := F)).trans hk (fun k _ e => e ▸ f1)⟩
  · exact h3.names.block (hk.block _ h3.names.lt (map_ne_blk h3.names h3.box))
  · exact hm.block (hk.block _ hlt (map_ne_blk hm h3.box))
  · obtain ⟨a, b⟩ := h3.file i f hi hd
    exact ⟨a.keptB hk (blk_ne_blk a h3.box (by decide)), own_kept b hk (own_ne_blk b h3.box (by decide))⟩
  · have := h.names.lt
    have e' : L.gN = w.heap.size := e
    omega
end
set_option maxRecDepth 100000 in
set_option maxHeartbeats 2000000 in
theorem DirSync_any {w : World} {F : Nat → Prop} {d : Nat} {L : Lay} {s : Dsk} (h : DskAt w F d L s) (ok : s.Ok) :
    Calls Try.prog 16 #[.pointer (some ⟨d, 0, none⟩)] w fun e w' => e = .returned (.int .i64 (s.dirsync.2 : Nat)) ∧ Went w w' F d s.dirsync.1 := by
  have hdF := h.inF.1
  have hp := power_any h
  rcases Bool.eq_false_or_eq_true s.off with ho | ho
  · have hR : s.dirsync = (s, 7) := by unfold Dsk.dirsync; rw [if_pos ho]
    rw [hR]
    clear hR
    rw [ho] at hp
    simp only [if_true] at hp
    replace ho := Lib.hid ho
    replace hp := Lib.hid hp
    go_enter Try.func16, Try.ntmps16
    go_wp2_with fail
    refine hp.out.mono ?_
    rintro e w' ⟨rfl, rfl⟩
    go_wp2_with fail
    go_ret
    exact ⟨rfl, .of (KeptBut.refl _ _) h⟩
  · rw [ho] at hp
    simp only [Bool.false_eq_true, if_false] at hp
    replace hp := Lib.hid hp
    have hcall := burns_any h ok
    rcases Bool.eq_false_or_eq_true s.burn.off with hb | hb
    · have hR : s.dirsync = (s.burn, 7) := by unfold Dsk.dirsync; rw [if_neg (by rw [ho]; decide)]; exact if_pos hb
      rw [hR]
      clear hR
      rw [hb] at hcall
      simp only [errB, if_true] at hcall
      replace hcall := Lib.hid hcall
      replace ho := Lib.hid ho
      replace hb := Lib.hid hb
      go_enter Try.func16, Try.ntmps16
      go_wp2_with fail
      refine hp.out.mono ?_
      rintro e w' ⟨rfl, rfl⟩
      go_wp2_with fail
      refine hcall.out.mono ?_
      rintro e w2 ⟨rfl, hD2, hk2⟩
      replace hk2 := Lib.hid hk2
      go_wp2_with fail
      go_ret
      exact ⟨rfl, .of (hk2.out.mono (fun k _ e => e ▸ hdF)) hD2⟩
    · have hR : s.dirsync = ({ s.burn with last := s.burn.names, chg := [] }, 0) := by unfold Dsk.dirsync; rw [if_neg (by rw [ho]; decide)]; exact if_neg (by rw [hb]; decide)
      rw [hR]
      clear hR
      rw [hb] at hcall
      simp only [errB] at hcall
      replace hcall := Lib.hid hcall
      replace ho := Lib.hid ho
      replace hb := Lib.hid hb
      go_enter Try.func16, Try.ntmps16
      go_wp2_with fail
      refine hp.out.mono ?_
      rintro e w' ⟨rfl, rfl⟩
      go_wp2_with fail
      refine hcall.out.mono ?_
      rintro e w2 ⟨rfl, hD2, hk2⟩
      have b1 := hD2.box.cell 1
      have hcl := Clone_any hD2.names
      replace hcl := Lib.hid hcl
      replace hk2 := Lib.hid hk2
      go_wp2_with fail
      refine hcl.out.mono ?_
      rintro e w3 ⟨rfl, hm3, hb3, hlt3⟩
      have hdl := hD2.lt
      have hbx := hD2.box.below hb3 hdl
      have b2 := hbx.cell 2
      have b3 := hbx.cell 3
      have g2 := hbx.frozen 2
      have g3 := hbx.frozen 3
      replace hb3 := Lib.hid hb3
      replace hm3 := Lib.hid hm3
      have hk4 := ((KeptBut.refl w3 (fun k => k = d)).then_set (b := d) (o := 2) (v := .map (some w2.heap.size)) rfl).then_set (b := d) (o := 3) (v := .slice none 0 0) rfl
      have hset := hD2.resync hm3.out hb3.out hlt3 hk4 (by simpa using (hbx.set_ 2 (.map (some w2.heap.size))).set_ 3 (.slice none 0 0))
      replace hset := Lib.hid hset
      have hs2 := hk2.out.size
      clear hk4
      go_wp2_with fail
      go_ret
      exact ⟨rfl, (hk2.out.mono (fun k _ e => e ▸ hdF)).trans hset.out.2 (fun k _ e => e), _, hset.out.1.more (fun k hk => hk.elim .inl (fun e => .inr ⟨by omega, e.2⟩))⟩
end Go.Proofs.Ytkhicfoikkllmaa
