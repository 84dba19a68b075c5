/- Contracts: the function that makes a twin's file. -/
import Derived.Test.YtkhicfoikkllmaaTwS
namespace Go.Proofs.Ytkhicfoikkllmaa
open Go.RowKit
set_option linter.unusedVariables false
set_option linter.unusedSimpArgs false
/-- Which files were made: the map, behind its box. -/
structure TwAt (wr : World) (n : Nat) (L Lt : Lay) (M gm : Nat) : Prop where
  box : Blk wr M 71 #[.map (some gm)]
  pm : ∃ mk, PM wr gm mk ∧ (∀ p ∈ mk, ∃ i, i < n ∧ ¬ L.dead i ∧ ¬ Lt.dead i ∧ p.1 = L.blk i) ∧ (∀ i, i < n → ¬ L.dead i → Lt.dead i → getP (L.blk i) mk = none) ∧ (∀ i, i < n → ¬ L.dead i → ¬ Lt.dead i → getP (L.blk i) mk = some (Lt.blk i))
theorem file_info : ∃ j, Try.prog.info? 65 = some j ∧ j.size ≠ 0 := by
  have h : (Try.prog.info? 65).map (·.size) = some 2 := by kernel_rfl
  obtain ⟨j, h1, h2⟩ := Option.map_eq_some_iff.1 h
  exact ⟨j, h1, by omega⟩
theorem wpList_pm_store {P : Program} (w : World) {ops : Array Oper} {rest : List Oper} {o : Oper} {a : Act} {Q : Exit → Act → World → Prop} (hgd : o.guard = none) (mo x v : Operand) (t : TypeId) (hop : o.op = Op.mapUpdate t mo x v) (g : Nat) (m : List (Nat × Nat)) (b b2 : Nat)
    (hm : a.eval mo = .map (some g)) (hx : a.eval x = ptr b) (hv : a.eval v = ptr b2) (h : ∃ w', (Instr.mapUpdate t (.map (some g)) (ptr b) (ptr b2)).run P w = .ok () w' ∧ PM w' g m ∧ KeptBut w w' (fun k => k = g))
    (hK : ∀ w', PM w' g m → KeptBut w w' (fun k => k = g) → wpList P ops Q rest (a.put o.dst undef) w') : wpList P ops Q (o :: rest) a w := by
  refine wpList_plain hgd fun K' hK' => ?_
  obtain ⟨w', hrun, r1, r2⟩ := h
  unfold Oper.wp
  simp [execOp, hop, hm, hx, hv, hrun, Result.andThen]
  exact hK' _ _ (hK w' r1 r2)
set_option maxRecDepth 100000 in
set_option maxHeartbeats 2000000 in
theorem tw_nil {w : World} {n M gm : Nat} {L Lt : Lay} (h : TwAt w n L Lt M gm) : Calls Try.prog 38 #[.pointer none, .pointer (some ⟨M, 0, none⟩)] w fun e w' => e = .returned (.pointer none) ∧ w = w' := by
  have m0 := h.box.cell 0
  obtain ⟨mk, hpm, _, _, _⟩ := h.pm
  have hl := hpm.look_nil (P := Try.prog) Try.underlying71 Try.underlying60 (zero_file w)
  replace hpm := Lib.hid hpm
  go_enter Try.func38, Try.ntmps38
  go_wp2_with fail
  go_ret
  exact ⟨rfl, rfl⟩
/-- What the function leaves: the twin's file is there. -/
structure TwOut (w w' : World) (Fd : Nat → Prop) (d : Nat) (L : Lay) (s : Dsk) (Ft : Nat → Prop) (t : Nat) (Lt Lt' : Lay) (st : Dsk) (M gm i : Nat) : Prop where
  src : DskAt w' Fd d L s
  dst : DskAt w' (Fx Ft w w') t Lt' st
  tw : TwAt w' s.files.length L Lt' M gm
  live : ¬ Lt'.dead i
  kept : KeptBut w w' (fun k => k = gm)
  old : ∀ j, ¬ Lt.dead j → ¬ Lt'.dead j ∧ Lt'.blk j = Lt.blk j
  lay : Lt'.gN = Lt.gN ∧ Lt'.gL = Lt.gL ∧ Lt'.vC = Lt.vC
section
variable {w : World} {Fd Ft : Nat → Prop} {d t M gm i : Nat} {L Lt : Lay} {s st : Dsk} {f : Fil}
theorem TwOut.of_new (hD : DskAt w Fd d L s) (hT : DskAt w Ft t Lt st) (hfs : st.files = s.files) (hA : TwAt w s.files.length L Lt M gm) (hi : s.files[i]? = some f) (hdl : ¬ L.dead i) (hld : Lt.dead i) (hgd : ∀ k, Fd k → k ≠ gm) (hgt : ∀ k, Ft k → k ≠ gm)
    {mk : List (Nat × Nat)} (hpm : (∀ p ∈ mk, ∃ i, i < s.files.length ∧ ¬ L.dead i ∧ ¬ Lt.dead i ∧ p.1 = L.blk i) ∧ (∀ i, i < s.files.length → ¬ L.dead i → Lt.dead i → getP (L.blk i) mk = none) ∧ (∀ i, i < s.files.length → ¬ L.dead i → ¬ Lt.dead i → getP (L.blk i) mk = some (Lt.blk i)))
    {w2 w3 : World} {b : Nat} {v : Value} (hb2 : Below w.heap.size w w2) (hb : Blk w2 b 65 #[v, .int .i64 f.k]) (ho : OwnB w2 w.heap.size v f.d) (hbn : w.heap.size ≤ b) (hgm : gm < w.heap.size)
    (hp3 : PM w3 gm (mk ++ [(L.blk i, b)])) (hk3 : KeptBut w2 w3 (fun k => k = gm)) : ∃ Lt', TwOut w w3 Fd d L s Ft t Lt Lt' st M gm i ∧ Lt'.blk i = b := by
  have hil := (List.getElem?_eq_some_iff.1 hi).1
  have hD3 := (hD.below hb2).kept hk3 (fun k hk => hgd k hk)
  have hT3 := (hT.below hb2).kept hk3 (fun k hk => hgt k hk)
  have hb3 := hb.keptB hk3 (by omega)
  have hlv : ∀ k, v.ownBlock = some k → w.heap.size ≤ k := fun k hk => (own_lt ho k hk).1
  have hlv2 : ∀ k, v.ownBlock = some k → k < w3.heap.size := fun k hk => by have := (own_lt ho k hk).2; have := hk3.size; omega
  have ho3 : OwnB w3 0 v f.d := own_kept (own_base ho) hk3 (fun k hk e => by have := hlv k hk; omega)
  have old : ∀ j, j < st.files.length → ¬ Lt.dead j → Lt.blk j < w.heap.size ∧ ∀ k, (Lt.row j).ownBlock = some k → k < w.heap.size := fun j hj hd => by
    obtain ⟨a, c⟩ := hT.file j _ (List.getElem?_eq_getElem hj) hd
    exact ⟨a.lt, fun k hk => (own_lt c k hk).2⟩
  have hR := hT3.revive (i := i) (f := f) (by rw [hfs]; exact hi) hld hb3 ho3 (fun j hj hd e => by have := (old j hj hd).1; omega) (fun j hj hd k e1 e2 => by have := (old j hj hd).2 k e1; have := hlv k e2; omega)
  have hs23 := hk3.size
  have hs2 := hb2.size
  refine ⟨_, ⟨hD3, hR.more (fun k hk => ?_), ⟨(hA.box.below hb2 hA.box.lt).keptB hk3 ?_, mk ++ [(L.blk i, b)], hp3, ?_, ?_, ?_⟩, fun e => e.2 rfl, (KeptBut.of_below hb2).trans hk3 (fun _ _ e => e), ?_, rfl, rfl, rfl⟩, by dsimp only; rw [if_pos rfl]⟩
  · rcases hk with hk | hk | hk
    · exact .inl hk
    · exact .inr ⟨by omega, by have := hb3.lt; omega⟩
    · exact .inr ⟨hlv k hk, hlv2 k hk⟩
  · rintro e
    obtain ⟨mk', h1, _⟩ := hA.pm
    obtain ⟨es, c, h2, _⟩ := h1
    have h3 := hA.box
    unfold Blk at h3
    rw [e, h2] at h3
    cases h3
  · intro p hp
    rcases List.mem_append.1 hp with h1 | h1
    · obtain ⟨j, a1, a2, a3, a4⟩ := hpm.1 p h1
      exact ⟨j, a1, a2, fun e => a3 e.1, a4⟩
    · rw [List.mem_singleton.1 h1]
      exact ⟨i, hil, hdl, fun e => e.2 rfl, rfl⟩
  · intro j hj hdj hdt
    have hne : L.blk j ≠ L.blk i := fun e => hdt.2 (hD.inj j i hj hil hdj hdl e)
    have h0 := hpm.2.1 j hj hdj hdt.1
    unfold getP at h0 ⊢
    simp only [Option.map_eq_none_iff] at h0 ⊢
    rw [List.find?_append, h0]
    simp [Ne.symm hne]
  · intro j hj hdj hdt
    dsimp only at hdt ⊢
    by_cases e : j = i
    · subst e
      rw [if_pos rfl]
      have h0 := hpm.2.1 j hj hdj hld
      unfold getP at h0 ⊢
      simp only [Option.map_eq_none_iff] at h0
      rw [List.find?_append, h0]
      simp
    · rw [if_neg e]
      have h0 := hpm.2.2 j hj hdj (fun h => hdt ⟨h, e⟩)
      unfold getP at h0 ⊢
      obtain ⟨q, hq, hq2⟩ := Option.map_eq_some_iff.1 h0
      rw [List.find?_append, hq]
      simp [hq2]
  · intro j hj
    refine ⟨fun e => hj e.1, ?_⟩
    dsimp only
    rw [if_neg (fun e : j = i => hj (by rw [e]; exact hld))]
set_option maxRecDepth 100000 in
set_option maxHeartbeats 4000000 in
theorem tw_some (hD : DskAt w Fd d L s) (hT : DskAt w Ft t Lt st) (hfs : st.files = s.files) (hA : TwAt w s.files.length L Lt M gm) (hi : s.files[i]? = some f) (hfl : f.d.length ≤ 1048576) (hdl : ¬ L.dead i) (hgd : ∀ k, Fd k → k ≠ gm) (hgt : ∀ k, Ft k → k ≠ gm) :
    Calls Try.prog 38 #[.pointer (some ⟨L.blk i, 0, none⟩), .pointer (some ⟨M, 0, none⟩)] w fun e w' => ∃ Lt', e = .returned (.pointer (some ⟨Lt'.blk i, 0, none⟩)) ∧ TwOut w w' Fd d L s Ft t Lt Lt' st M gm i := by
  have hil := (List.getElem?_eq_some_iff.1 hi).1
  obtain ⟨jf, hj1, hj2⟩ := file_info
  obtain ⟨mk, hpm, hp1, hp2, hp3⟩ := hA.pm
  have m0 := hA.box.cell 0
  obtain ⟨bi, oi⟩ := hD.file i f hi hdl
  have hcells : ∀ W, Below w.heap.size w W → CellsAt W (L.blk i) ∧ ∀ p ∈ mk, CellsAt W p.1 := fun W hW => by
    refine ⟨⟨_, _, bi.below hW bi.lt⟩, fun p hp => ?_⟩
    obtain ⟨j, a1, a2, a3, a4⟩ := hp1 p hp
    obtain ⟨bj, _⟩ := hD.file j _ (List.getElem?_eq_getElem a1) a2
    exact ⟨_, _, a4 ▸ bj.below hW bj.lt⟩
  have hlk := hpm.look (P := Try.prog) Try.underlying71 Try.underlying60 hj1 hj2 (zero_file w) (hcells w (Below.refl _ _)).1 (hcells w (Below.refl _ _)).2
  unfold ptr at hlk
  have b0 := bi.cell 0
  have b1 := bi.cell 1
  have hbl := bi.lt
  have hml := hA.box.lt
  have hgl := hpm.lt
  by_cases hld : Lt.dead i
  · rw [hp2 i hil hdl hld] at hlk
    simp only [ptrV] at hlk
    have hcl := fun (W : World) (hW : Below w.heap.size w W) => cloneB_any (w := W) (own_block oi fun k hk => hW.block k (own_lt oi k hk).2) hfl
    have hst := fun (W : World) (b : Nat) (hW : Below w.heap.size w W) => (hpm.block (hW.block gm hgl)).store (P := Try.prog) Try.underlying71 Try.underlying60 hj1 hj2 (v := b) (hcells W hW).1 (hcells W hW).2 (hp2 i hil hdl hld)
    have hfin := fun w2 w3 b v h1 h2 h3 h4 h5 h6 => TwOut.of_new (w2 := w2) (w3 := w3) (b := b) (v := v) hD hT hfs hA hi hdl hld hgd hgt ⟨hp1, hp2, hp3⟩ h1 h2 h3 h4 hgl h5 h6
    replace hcl := Lib.hid hcl
    replace hst := Lib.hid hst
    replace hfin := Lib.hid hfin
    replace hcells := Lib.hid hcells
    replace hp1 := Lib.hid hp1
    replace hp2 := Lib.hid hp2
    replace hp3 := Lib.hid hp3
    replace hD := Lib.hid hD
    replace hT := Lib.hid hT
    replace hA := Lib.hid hA
    replace hpm := Lib.hid hpm
    replace hi := Lib.hid hi
    go_enter Try.func38, Try.ntmps38
    go_wp2_with fail
    have hxc := @Ext.cell
    have hxf := @Ext.frozen
    refine wp_hide (fun Q0 hQ0 => ?_)
    refine wp_region_line (fun w' => ∃ x : Ext _, w' = x.w) [some false, some false, some false, some false, some false, some false, none, some false, some false, some false, some false, none, none, none] 3 (by kernel_rfl) (by kernel_rfl) ⟨⟨_, (Below.refl _ _).drew⟩, rfl⟩ ?_
    simp only [earlyL, tailL]
    repeat (first | ((with_reducible refine wpMix_p ?_); go_big_quiet_step (fail); refine wpQuiet_nil ?_) | ((with_reducible refine wpMix_e ?_); go_big_quiet_step ((first | fail)); refine wpQuiet_nil ?_))
    refine wpMix_nil ?_
    clear hxc hxf
    intro wx hwx
    obtain ⟨x, hx⟩ := hwx
    have hb := x.below
    rw [← hx] at hb
    clear hx x
    have hbs := hb.size
    have hc1 := hcl.out wx hb
    replace hb := Lib.hid hb
    replace hc1 := Lib.hid hc1
    refine wpTail_step ?_
    intro Q1 hQ1
    go_wp2_with fail
    refine hc1.out.mono ?_
    rintro e w1 ⟨v1, rfl, hO, hbx⟩
    obtain ⟨Av, cv, rfl⟩ := hO.form
    have hB1 := hb.out.trans (hbx.mono hbs)
    have hO1 : OwnB w1 w.heap.size (.slice Av f.d.length cv) f.d := ⟨hO.1, by
      rcases hO.2 with h | ⟨g, cap, cur, e, h1, h2⟩
      · exact .inl h
      · exact .inr ⟨g, cap, cur, e, by omega, h2⟩⟩
    have hz1 := hB1.size
    clear hO hbx
    go_wp2_with fail
    refine hQ1 _ _ rfl (fun _ => ⟨⟨_, hB1⟩, rfl⟩) ?_
    clear hQ1 Q1
    refine wpTail_step ?_
    intro Q1 hQ1
    go_wp2_with fail
    refine hQ1 _ _ rfl (fun _ => ⟨⟨_, hB1⟩, rfl⟩) ?_
    clear hQ1 Q1
    refine wpTail_step ?_
    intro Q1 hQ1
    go_wp2_with fail
    have hB2 := hB1.alloc hz1 (.cells #[.slice Av f.d.length cv, .int .i64 f.k] 65)
    refine hQ1 _ _ rfl (fun _ => ⟨⟨_, hB2⟩, rfl⟩) ?_
    clear hQ1 Q1
    have hN : Blk (w1.alloc (.cells #[.slice Av f.d.length cv, .int .i64 f.k] 65)) w1.heap.size 65 #[.slice Av f.d.length cv, .int .i64 f.k] := Blk.new _ _ _
    have hO2 : OwnB (w1.alloc (.cells #[.slice Av f.d.length cv, .int .i64 f.k] 65)) w.heap.size (.slice Av f.d.length cv) f.d := World.ownsRow.alloc hO1 _
    have hst2 := hst.out _ w1.heap.size hB2
    replace hN := Lib.hid hN
    replace hO2 := Lib.hid hO2
    replace hB2 := Lib.hid hB2
    replace hB1 := Lib.hid hB1
    clear hO1
    refine wpTail_step ?_
    intro Q1 hQ1
    go_wp2_with (at_mapUpdate; refine wpList_pm_store _ rfl _ _ _ 71 rfl gm _ _ _ rfl rfl rfl hst2 ?_; intro w3 hp3' hk3)
    refine hQ1 _ _ rfl (fun h => absurd h (by decide)) ?_
    clear hQ1 Q1
    obtain ⟨Lt', hout, hbl'⟩ := hfin.out _ _ _ _ hB2.out hN.out hO2.out hz1 hp3' hk3
    refine wpTail_nil ?_
    refine hQ0 _ _ ?_
    clear hQ0 Q0
    have hA3 := hout.tw
    have m3 := hA3.box.cell 0
    obtain ⟨mk3, hpm3, hq1, hq2, hq3⟩ := hA3.pm
    obtain ⟨bi3, _⟩ := hout.src.file i f hi.out hdl
    have hlk3 := hpm3.look (P := Try.prog) Try.underlying71 Try.underlying60 hj1 hj2 (zero_file w3) ⟨_, _, bi3⟩ (fun p hp => by
      obtain ⟨j, a1, a2, a3, a4⟩ := hq1 p hp
      obtain ⟨bj, _⟩ := hout.src.file j _ (List.getElem?_eq_getElem a1) a2
      exact ⟨_, _, a4 ▸ bj⟩)
    unfold ptr at hlk3
    rw [hq3 i hil hdl hout.live] at hlk3
    simp only [ptrV] at hlk3
    replace hout := Lib.hid hout
    replace hpm3 := Lib.hid hpm3
    replace hq1 := Lib.hid hq1
    replace hq2 := Lib.hid hq2
    replace hq3 := Lib.hid hq3
    replace hA3 := Lib.hid hA3
    replace hbl' := Lib.hid hbl'
    clear hst2 hp3' hk3 b0 b1 m0 hlk
    go_wp2_with fail
    go_ret
    exact ⟨Lt', rfl, hout.out⟩
  · rw [hp3 i hil hdl hld] at hlk
    simp only [ptrV] at hlk
    have hout : TwOut w w Fd d L s Ft t Lt Lt st M gm i := ⟨hD, hT.more (fun _ => .inl), hA, hld, KeptBut.refl _ _, fun j hj => ⟨hj, rfl⟩, rfl, rfl, rfl⟩
    replace hout := Lib.hid hout
    replace hD := Lib.hid hD
    replace hT := Lib.hid hT
    replace hA := Lib.hid hA
    replace hpm := Lib.hid hpm
    replace hi := Lib.hid hi
    replace hp1 := Lib.hid hp1
    replace hp2 := Lib.hid hp2
    replace hp3 := Lib.hid hp3
    go_enter Try.func38, Try.ntmps38
    go_wp2_with fail
    go_ret
    exact ⟨Lt, rfl, hout.out⟩
end
end Go.Proofs.Ytkhicfoikkllmaa
