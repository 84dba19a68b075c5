/- TableKnown: nil receivers; a builder that is done. -/
import Derived.Test.YtfnlponoakhegaaDoorM22
namespace Go.Proofs.YtfnlponoakhegaaDoor
open Go.RowKit
set_option linter.unusedVariables false
set_option linter.unusedSimpArgs false
set_option maxRecDepth 100000 in
set_option maxHeartbeats 1000000 in
theorem TAdd_nil (e : Ent) (w : World) : Calls Tryd.prog 10 #[.pointer none, .agg (entC e)] w fun r w' => r = .returned (.tuple #[.string ⟨#[]⟩, .int .i64 2]) ∧ Below w.heap.size w w' := by
  have hA : Below w.heap.size w (w.alloc (.cells (entC e) 33)) := (Below.refl _ _).alloc (Nat.le_refl _) _
  unfold entC
  unfold entC at hA
  go_enter Tryd.func10, Tryd.ntmps10
  go_wp2_with fail
  go_ret2
  exact ⟨rfl, hA⟩
set_option maxRecDepth 100000 in
set_option maxHeartbeats 1000000 in
theorem TFin_nil (w : World) : Calls Tryd.prog 9 #[.pointer none] w fun r w' => r = .returned (.tuple #[.string ⟨#[]⟩, .agg (tiC ⟨0, 0, 0, 0, [], [], 0, 0⟩), .int .i64 2]) ∧ Below w.heap.size w w' := by
  have hA : Below w.heap.size w (w.alloc (.cells (tiC ⟨0, 0, 0, 0, [], [], 0, 0⟩) 26)) := (Below.refl _ _).alloc (Nat.le_refl _) _
  have hR : Blk (w.alloc (.cells (tiC ⟨0, 0, 0, 0, [], [], 0, 0⟩) 26)) w.heap.size 26 (tiC ⟨0, 0, 0, 0, [], [], 0, 0⟩) := Blk.new _ _ _
  go_enter Tryd.func9, Tryd.ntmps9
  go_wp2_with fail
  exact bodyPost_ret (v := .tuple #[.string ⟨#[]⟩, .agg (tiC ⟨0, 0, 0, 0, [], [], 0, 0⟩), .int .i64 2]) (results_tct rfl _ _ w.heap.size _ _ _ rfl rfl rfl (load_ti hR rfl)) rfl ⟨rfl, hA⟩
set_option maxRecDepth 100000 in
set_option maxHeartbeats 1000000 in
theorem TGet_nil (key : ByteArray) (at_ : Nat) (w : World) : Calls Tryd.prog 11 #[.pointer none, .string key, .int .u64 (at_ : Nat)] w fun r w' => r = .returned (entV none) ∧ Below w.heap.size w w' := by
  have hA : Below w.heap.size w (w.alloc (.cells (entC ent0) 33)) := (Below.refl _ _).alloc (Nat.le_refl _) _
  have hR0 : Blk (w.alloc (.cells (entC ent0) 33)) w.heap.size 33 (entC ent0) := Blk.new _ _ _
  have hm := Lib.hid (tMay_nil key (w.alloc (.cells (entC ent0) 33)))
  go_enter Tryd.func11, Tryd.ntmps11
  go_wp2_with fail
  refine hm.out.mono ?_
  rintro e w1 ⟨rfl, hb1⟩
  have hb01 := hA.trans (hb1.mono hA.size)
  have hR1 := hR0.below hb1 hR0.lt
  have hfin := ent_set0 hR1 rfl
  have z0 := hR1.cell 0
  have z1 := hR1.cell 1
  have z2 := hR1.cell 2
  have z3 := hR1.cell 3
  have y0 := hR1.frozen 0
  have y1 := hR1.frozen 1
  have y2 := hR1.frozen 2
  have y3 := hR1.frozen 3
  have zl := hR1.lt
  replace hfin := Lib.hid hfin
  simp only [entC, ent0] at z0 z1 z2 z3
  go_wp2_with fail
  exact bodyPost_ret (v := entV none) (results_row_tmp rfl _ _ w.heap.size (.agg (entC ent0)) (.bool false) rfl rfl (load_ent hfin.out rfl)) rfl ⟨rfl, (((hb01.setCell (Nat.le_refl _) _).setCell (Nat.le_refl _) _).setCell (Nat.le_refl _) _).setCell (Nat.le_refl _) _⟩
section
variable {w0 wr w' : World} {n : Nat} {lv : Int} {gb : Nat} {es : List Ent} {v : Value} {rows : List Ent}
/-- Finish of a builder that took none. -/
theorem TSt.fin0 (h : TSt w0 wr n lv gb es v rows) (hne : (runX n lv es).2.2 = []) :
    Calls Tryd.prog 9 #[.pointer (some ⟨gb, 0, none⟩)] wr fun r w' => r = .returned (.tuple #[.string ⟨#[]⟩, .agg (tiC ⟨0, 0, 0, 0, [], [], 0, 0⟩), .int .i64 9]) ∧ TSt w0 w' n lv gb es v rows := by
  have hX := runX_I n lv es
  obtain ⟨⟨bl, cu, h6, h7⟩, hrun, hlen, hsub⟩ := hX
  obtain ⟨F, h1, h2, h3, h4⟩ := id h
  obtain ⟨vb1, vs1, vb2, vs2, vk, vp, hT, hF⟩ := h1
  have hc : (runX n lv es).1.t.count = 0 := by rw [h6.count, hne]; rfl
  refine (Fin_err hT.blk (.inr hc)).mono ?_
  rintro q w' ⟨rfl, hb⟩
  exact ⟨rfl, h.below hb⟩
def DoneB (w : World) (gb : Nat) : Prop := ∃ s' : TB, s'.done = true ∧ ∃ a b c d e f, Blk w gb 67 (tbC s' a b c d e f)
theorem DoneB.below {w w' : World} (h : DoneB w gb) (hb : Below w.heap.size w w') : DoneB w' gb := by
  obtain ⟨s', hd, a, b, c, d, e, f, hB⟩ := h
  exact ⟨s', hd, a, b, c, d, e, f, hB.below hb hB.lt⟩
theorem DoneB.add {w : World} (h : DoneB w gb) (e : Ent) : Calls Tryd.prog 10 #[.pointer (some ⟨gb, 0, none⟩), .agg (entC e)] w fun r w' => r = .returned (.tuple #[.string ⟨#[]⟩, .int .i64 9]) ∧ Below w.heap.size w w' := by
  obtain ⟨s', hd, a, b, c, d, x, f, hB⟩ := h
  exact TAdd_done hB hd e
theorem DoneB.fin {w : World} (h : DoneB w gb) : Calls Tryd.prog 9 #[.pointer (some ⟨gb, 0, none⟩)] w fun r w' => r = .returned (.tuple #[.string ⟨#[]⟩, .agg (tiC ⟨0, 0, 0, 0, [], [], 0, 0⟩), .int .i64 9]) ∧ Below w.heap.size w w' := by
  obtain ⟨s', hd, a, b, c, d, x, f, hB⟩ := h
  exact Fin_err hB (.inl hd)
theorem TSt.finD (h : TSt w0 wr n lv gb es v rows) (hG : Gl w0) (hN : es.length ≤ 1073741824) (hne : (runX n lv es).2.2 ≠ []) :
    Calls Tryd.prog 9 #[.pointer (some ⟨gb, 0, none⟩)] wr fun r w' => r = .returned (.tuple #[.string (bs (runX n lv es).1.outL), .agg (tiC (finT (runX n lv es))), .int .i64 0]) ∧ DoneB w' gb ∧ Below w0.heap.size w0 w' := by
  obtain ⟨F, h1, h2, h3, h4⟩ := h
  have hX := runX_I n lv es
  obtain ⟨⟨bl, cu, h6, h7⟩, hrun, hlen, hsub⟩ := hX
  generalize runX n lv es = r at *
  have hG0 := hG.lt
  refine (Fin_run h1 (hG.below h4 hG0) (fun q => by have := (h3 0 q).1; omega) (fun q => by have := (h3 1 q).1; omega) h6 hne (by omega)).mono ?_
  rintro q w' ⟨rfl, hD, hk⟩
  refine ⟨?_, hD, hk.below_of h4 (fun k hk => (h3 k hk).1)⟩
  unfold finT
  rw [if_neg hne, List.length_append]
end
end Go.Proofs.YtfnlponoakhegaaDoor
