/- Contracts: changed. -/
import Derived.Test.YtkhicfoikkllmaaOp2
namespace Go.Proofs.Ytkhicfoikkllmaa
open Go.RowKit
set_option linter.unusedVariables false
set_option linter.unusedSimpArgs false
def wentErr (b : Bool) (e : Ending) : Prop := e = .returned (.int .i64 (errB b))
theorem Went.of {w w' : World} {F : Nat → Prop} {d : Nat} {L : Lay} {s : Dsk} (hk : KeptBut w w' F) (h : DskAt w' F d L s) : Went w w' F d s := ⟨hk, L, h.more (fun _ => .inl)⟩
set_option maxRecDepth 100000 in
set_option maxHeartbeats 2000000 in
theorem changed_any {w : World} {F : Nat → Prop} {d : Nat} {L : Lay} {s : Dsk} (h : DskAt w F d L s) (ok : s.Ok) (c : Chg) (h1 : c.fr.length ≤ 24) (h2 : c.to.length ≤ 24) (h3 : c.to ≠ [] → c.f ≠ none) (hlv : ∀ i, c.f = some i → ¬ L.dead i) (hn : s.names.length < 1073741824) (hl : s.chg.length < 1073741824) :
    Calls Try.prog 47 #[.pointer (some ⟨d, 0, none⟩), chgVal L.blk c] w fun e w' => e = .returned (.int .i64 (errB s.burn.off)) ∧ Went w w' F d (s.changed c).1 := by
  obtain ⟨i0, hi0, hz0, hz1, hz2⟩ := info_parts chg_info
  have hA : Below w.heap.size w (w.alloc (.cells #[.string (bs c.fr), .string (bs c.to), ptrV (c.f.map L.blk)] 68)) := (Below.refl _ _).alloc (Nat.le_refl _) _
  have hX : Blk (w.alloc (.cells #[.string (bs c.fr), .string (bs c.to), ptrV (c.f.map L.blk)] 68)) w.heap.size 68 #[.string (bs c.fr), .string (bs c.to), ptrV (c.f.map L.blk)] := Blk.new _ _ _
  have hD := h.below hA
  have hF := h.inF
  have hdl := h.lt
  have hgl := h.names.lt
  have hbn := burns_any hD ok
  obtain ⟨e1, e2, e3, e4, e5, e6⟩ := @Dsk.burn_same s
  have hd0 := h3
  replace h3 := Lib.hid h3
  replace hlv := Lib.hid hlv
  replace hd0 := Lib.hid hd0
  generalize hv : ptrV (c.f.map L.blk) = pv at *
  replace hv := Lib.hid hv
  unfold chgVal
  rw [hv.out]
  unfold Dsk.changed
  rw [← e4] at hl
  rw [← e2] at hn
  clear e1 e2 e3 e4 e5 e6
  cases ho : s.burn.off with
  | true =>
    rw [ho] at hbn
    replace ho := Lib.hid ho
    rw [if_pos rfl]
    simp only [errB, if_true] at *
    go_enter Try.func47, Try.ntmps47
    go_wp2_with fail
    refine hbn.mono ?_
    rintro e w1 ⟨rfl, hD1, hk1⟩
    replace hk1 := Lib.hid (((KeptBut.of_below hA (S := F)).trans hk1 (fun k _ e => e ▸ hF.1)))
    go_wp2_with fail
    go_ret
    exact ⟨rfl, .of hk1.out hD1⟩
  | false =>
    rw [ho] at hbn
    replace ho := Lib.hid ho
    rw [if_neg (by decide)]
    simp only [errB] at *
    go_enter Try.func47, Try.ntmps47
    go_wp2_with fail
    refine hbn.mono ?_
    rintro e w1 ⟨rfl, hD1, hk1⟩
    have hX1 := hX.keptB hk1 (by omega)
    have hK1 := (KeptBut.of_below hA (S := F)).trans hk1 (fun k _ e => e ▸ hF.1)
    have x0 := hX1.cell 0
    have x1 := hX1.cell 1
    have x2 := hX1.cell 2
    have b1 := hD1.box.cell 1
    have hl1 := hX1.lt
    have hdl1 := hD1.lt
    replace hK1 := Lib.hid hK1
    clear hk1
    go_wp2_with fail
    have hxc := @Ext.cell
    have hxf := @Ext.frozen
    refine wp_hide (fun Q0 hQ0 => ?_)
    refine wp_region_line (fun w' => ∃ x : Ext _, w' = x.w) [some false, some false, some false, some false, some false, none] 0 (by kernel_rfl) (by kernel_rfl) ⟨⟨_, (Below.refl _ _).drew⟩, rfl⟩ ?_
    simp only [earlyL, tailL]
    repeat (first | ((with_reducible refine wpMix_p ?_); go_big_quiet_step (fail); refine wpQuiet_nil ?_) | ((with_reducible refine wpMix_e ?_); go_big_quiet_step ((first | fail)); refine wpQuiet_nil ?_))
    refine wpMix_nil ?_
    clear hxc hxf
    intro wx hwx
    obtain ⟨x, hx⟩ := hwx
    have hb := x.below
    rw [← hx] at hb
    clear hx x
    have hD2 := hD1.below hb
    have hX2 := hX1.below hb hl1
    have hK2 := hK1.out.then_below hb
    have hcall := does_any wx L.gN s.burn.names L.blk c hD2.names h1 h2 hd0.out (by omega)
    unfold chgVal at hcall
    rw [hv.out] at hcall
    clear x0 x1 x2 b1 hb
    replace hcall := Lib.hid hcall
    refine wpTail_step ?_
    intro Q1 hQ1
    go_wp2_with fail
    refine hcall.out.mono ?_
    rintro e w3 ⟨rfl, hm3, hk3⟩
    have hD3 := hD2.renames hk3 hm3 (fun p hp => by
      rcases doesC_mem hp with h1 | ⟨h1, rfl⟩
      · exact hD2.live.1 p h1
      · obtain ⟨i', hi'⟩ := Option.ne_none_iff_exists'.1 (hd0.out h1)
        simp only [hi', Option.getD_some]
        exact hlv.out i' hi')
    have hX3 := hX2.keptB hk3 (fun e => by have e' : w.heap.size = L.gN := e; omega)
    have hK3 := hK2.trans hk3 (fun k _ e => e ▸ hF.2.1)
    replace hK3 := Lib.hid hK3
    clear hk3 hm3 hK2 hK1
    go_wp2_with fail
    refine hQ1 _ _ rfl (fun h => absurd h (by decide)) ?_
    clear hQ1 Q1 hcall
    refine wpTail_nil ?_
    refine hQ0 _ _ ?_
    clear hQ0 Q0
    have b3 := hD3.box.cell 3
    have y0 := hX3.cell 0
    have y1 := hX3.cell 1
    have y2 := hX3.cell 2
    have hl3 := hX3.lt
    have hdl3 := hD3.lt
    go_wp2_with fail
    have hxc := @Ext.cell
    have hxf := @Ext.frozen
    refine wp_hide (fun Q0 hQ0 => ?_)
    refine wp_region_line (fun w' => ∃ x : Ext _, w' = x.w) [some true, some false, some false, some false, some false, some false, none, none, none, none, none] 1 (by kernel_rfl) (by kernel_rfl) ⟨⟨_, (Below.refl _ _).drew⟩, rfl⟩ ?_
    simp only [earlyL, tailL]
    repeat (first | ((with_reducible refine wpMix_p ?_); go_big_quiet_step (fail); refine wpQuiet_nil ?_) | ((with_reducible refine wpMix_e ?_); go_big_quiet_step ((first | fail)); refine wpQuiet_nil ?_))
    refine wpMix_nil ?_
    clear hxc hxf
    intro wx hwx
    obtain ⟨x, hx⟩ := hwx
    have hb := x.below
    rw [← hx] at hb
    clear hx x
    have hbs := hb.size
    have hD4 := hD3.below hb
    have hK4 := hK3.out.then_below hb
    have hown := hD4.chg
    have hownx := World.ownsRow.alloc hown (.cells #[.string (bs c.fr), .string (bs c.to), pv] 68)
    have hrd := reads3' wx 68 (.string (bs c.fr)) (.string (bs c.to)) pv
    have hpv : ∀ u ∈ [Value.string (bs c.fr), .string (bs c.to), pv], u.oneCell' = true := by
      intro u hu
      simp at hu
      rcases hu with rfl | rfl | rfl
      · rfl
      · rfl
      · rw [← hv.out]; cases c.f.map L.blk <;> rfl
    clear b3 y0 y1 y2 hX3 hX2 hX1
    replace hK4 := Lib.hid hK4
    replace hpv := Lib.hid hpv
    replace hD4 := Lib.hid hD4
    clear hown
    refine wpTail_step ?_
    intro Q1 hQ1
    go_wp2_with fail
    refine hQ1 _ _ rfl (fun _ => ⟨⟨_, hb.alloc hbs _⟩, rfl⟩) ?_
    clear hQ1 Q1
    refine wpTail_step ?_
    intro Q1 hQ1
    go_wp2_with (at_builtin; refine wpList_append_any _ rfl (.tmp 21) (.tmp 23) 54 rfl 0 68 i0 (.agg #[.string ⟨#[]⟩, .string ⟨#[]⟩, .pointer none]) 3 40 Try.underlying54 hi0 hz0 hz1 hz2 rfl (by omega) L.vC s.burn.chg.length (chgV L.blk s.burn.chg) rfl hownx (wx.heap.size + 1) (some ⟨wx.heap.size, 0, none⟩) 1 1 [.string (bs c.fr), .string (bs c.to), pv] rfl hrd hpv.out (by unfold maxLen; omega) (by omega) (by simp) ?_; intro v2 w2b hown2 hgr2 hat2)
    refine hQ1 _ _ rfl (fun h => absurd h (by decide)) ?_
    clear hQ1 Q1
    rw [← hv.out] at hown2
    obtain ⟨hD5, hk5, c5, f5, A7, n7, cp7, h7⟩ := hD4.out.rechg (c := c) hown2 hgr2 (by simpa using hat2) hlv.out
    subst h7
    have hK5 := hK4.out.trans hk5 (fun k _ e => e)
    replace hD5 := Lib.hid hD5
    replace hK5 := Lib.hid hK5
    clear hown2 hgr2 hat2 hownx hrd hk5
    refine wpTail_step ?_
    intro Q1 hQ1
    go_wp2_with (fail)
    refine hQ1 _ _ rfl (fun h => absurd h (by decide)) ?_
    clear hQ1 Q1
    refine wpTail_step ?_
    intro Q1 hQ1
    go_wp2_with (fail)
    refine hQ1 _ _ rfl (fun h => absurd h (by decide)) ?_
    clear hQ1 Q1
    refine wpTail_step ?_
    intro Q1 hQ1
    go_wp2_with (fail)
    refine hQ1 _ _ rfl (fun h => absurd h (by decide)) ?_
    clear hQ1 Q1
    refine wpTail_nil ?_
    refine hQ0 _ _ ?_
    clear hQ0 Q0
    go_wp2_with fail
    go_ret
    have hs3 := hK3.out.size
    have hs5 := hK4.out.size
    exact ⟨rfl, hK5.out, _, hD5.out.more (fun k hk => hk.elim .inl (fun e => .inr ⟨by omega, by simpa [World.setCell] using e.2⟩))⟩
end Go.Proofs.Ytkhicfoikkllmaa
