/- Contracts: Twin. -/
import Derived.Test.YtkhicfoikkllmaaTwT
namespace Go.Proofs.Ytkhicfoikkllmaa
open Go.RowKit
set_option linter.unusedVariables false
set_option linter.unusedSimpArgs false
set_option maxRecDepth 100000 in
set_option maxHeartbeats 8000000 in
theorem Twin_any {w : World} {Fd : Nat → Prop} {d : Nat} {L : Lay} {s : Dsk} {m : Nat} (hD : DskAt w Fd d L s) (g : s.Good m) (hm : m ≤ 536870912) (hF : ∀ k, Fd k → k < w.heap.size) :
    Calls Try.prog 20 #[.pointer (some ⟨d, 0, none⟩)] w fun e w' => ∃ t L', e = .returned (.pointer (some ⟨t, 0, none⟩)) ∧ DskAt w' (fun k => w.heap.size ≤ k ∧ k < w'.heap.size) t L' s ∧ Below w.heap.size w w' := by
  obtain ⟨i0, hi0, hiz0, hiz1, hiz2⟩ := info_parts chg_info
  have hn := Lib.hid (none_any hD)
  have hmm := @run_makeMap Try.prog
  have c0 := hD.box.cell 0
  have hdl := hD.lt
  have hroom := g.ok.room
  have hnew := New_any (s.room : Int) w
  have hrm : ((Dsk.new (s.room : Int)).room : Nat) = s.room := by unfold Dsk.new; simp only []; omega
  have hrising := hD.last.rising Try.underlying9
  have hri : s.last.Pairwise (fun p q => bytesBefore p.1 q.1 = true) := by
    unfold mvM at hrising
    rw [List.pairwise_map] at hrising
    exact hrising
  replace hnew := Lib.hid hnew
  replace hrm := Lib.hid hrm
  replace hri := Lib.hid hri
  clear hrising
  go_enter Try.func20, Try.ntmps20
  go_wp2_with fail
  refine hn.out.mono ?_
  rintro e w' ⟨rfl, rfl⟩
  go_wp2_with fail
  refine hnew.out.mono ?_
  rintro e w1 ⟨t, rfl, ⟨L1, hT1⟩, hb1⟩
  have hD1 := hD.below hb1
  have hT2 := hT1.ghost s.files
  have c4 := hD1.box.cell 4
  have c5 := hD1.box.cell 5
  have hz1 := hb1.size
  have htl := hT2.lt
  have htF := hT2.inF.1
  have hd1 := hD1.lt
  replace hnew := Lib.hid hnew
  replace hT1 := Lib.hid hT1
  clear c0
  go_wp2_with fail
  have hxc := @Ext.cell
  have hxf := @Ext.frozen
  refine wp_hide (fun Q0 hQ0 => ?_)
  refine wp_region_line (fun w' => ∃ x : Ext _, w' = x.w) [some false, some true, some false, some false, some false, some false, some false, some false, some false, some false, some false, some false, none, none, none, none] 0 (by kernel_rfl) (by kernel_rfl) ⟨⟨_, (Below.refl _ _).drew⟩, rfl⟩ ?_
  simp only [earlyL, tailL]
  repeat (first | ((with_reducible refine wpMix_p ?_); go_big_quiet_step (fail); refine wpQuiet_nil ?_) | ((with_reducible refine wpMix_e ?_); go_big_quiet_step ((first | fail)); refine wpQuiet_nil ?_))
  refine wpMix_nil ?_
  clear hxc hxf
  intro wx hwx
  obtain ⟨x, hx⟩ := hwx
  have hb := x.below
  rw [← hx] at hb
  clear hx x
  have hD3 := hD1.below hb
  have hT3 := hT2.below hb
  have hb3 := hb1.trans (hb.mono hz1)
  have q4 := hT3.box.cell 4
  have q5 := hT3.box.cell 5
  have r4 := hT3.box.frozen 4
  have r5 := hT3.box.frozen 5
  have hk4 := ((KeptBut.refl wx (fun k => k = t)).then_set (b := t) (o := 4) (v := .bool s.off) rfl).then_set (b := t) (o := 5) (v := .int .i64 s.fuse) rfl
  have hT4 := hT3.rebox (s' := { { Dsk.new (s.room : Int) with files := s.files } with off := s.off, fuse := s.fuse }) hk4 (by simpa using (hT3.box.set_ 4 (.bool s.off)).set_ 5 (.int .i64 s.fuse)) rfl rfl rfl rfl
  have hD4 := hD3.kept hk4 (fun k hk e => by have := hF k hk; omega)
  have hb4 : Below w.heap.size w _ := hb3.trans (hk4.below (fun k e => by omega) (by have := hb3.size; omega))
  have c2 := hD3.box.cell 2
  have hdx := hD3.lt
  have htx := hT3.lt
  have hdt : ¬ d = t := by omega
  have hxz : w.heap.size ≤ wx.heap.size := hb3.size
  have hxz1 : w1.heap.size ≤ wx.heap.size := hb.size
  replace hD3 := Lib.hid hD3
  replace hT3 := Lib.hid hT3
  replace hT4 := Lib.hid hT4
  replace hD4 := Lib.hid hD4
  replace hb4 := Lib.hid hb4
  replace hD1 := Lib.hid hD1
  replace hT2 := Lib.hid hT2
  clear hk4 hb3 hb c4 c5
  refine wpTail_step ?_
  intro Q1 hQ1
  go_wp2_with (fail)
  refine hQ1 _ _ rfl (fun h => absurd h (by decide)) ?_
  clear hQ1 Q1
  refine wpTail_step ?_
  intro Q1 hQ1
  go_wp2_with (fail)
  refine hQ1 _ _ rfl (fun h => absurd h (by decide)) ?_
  clear hQ1 Q1
  refine wpTail_step ?_
  intro Q1 hQ1
  go_wp2_with (fail)
  refine hQ1 _ _ rfl (fun h => absurd h (by decide)) ?_
  clear hQ1 Q1
  refine wpTail_step ?_
  intro Q1 hQ1
  go_wp2_with (fail)
  refine hQ1 _ _ rfl (fun h => absurd h (by decide)) ?_
  clear hQ1 Q1
  refine wpTail_nil ?_
  refine hQ0 _ _ ?_
  clear hQ0 Q0
  generalize hw4 : (wx.setCell ⟨t, 4, none⟩ (.bool s.off)).setCell ⟨t, 5, none⟩ (.int .i64 s.fuse) = w4 at *
  have hz4 : wx.heap.size ≤ w4.heap.size := by rw [← hw4]; simp
  have c2' : w4.cell? ⟨d, 2, none⟩ = some (.map (some L.gL)) := hD4.out.box.cell 2
  clear hw4 q4 q5 r4 r5 c2
  have hM5 : Blk ((w4.alloc (.map #[] 0)).alloc (.cells #[.map (some w4.heap.size)] 71)) (w4.heap.size + 1) 71 #[.map (some w4.heap.size)] := by
    have h0 : Blk ((w4.alloc (.map #[] 0)).alloc (.cells #[.map (some w4.heap.size)] 71)) (w4.alloc (.map #[] 0)).heap.size 71 #[.map (some w4.heap.size)] := Blk.new _ _ _
    simpa using h0
  have hB5 : Below w4.heap.size w4 ((w4.alloc (.map #[] 0)).alloc (.cells #[.map (some w4.heap.size)] 71)) := ((Below.refl _ _).alloc (Nat.le_refl _) _).alloc (by simp) _
  have hP5 : PM ((w4.alloc (.map #[] 0)).alloc (.cells #[.map (some w4.heap.size)] 71)) w4.heap.size [] := (PM.new w4).block (Below.heap_alloc _ _ _ (by simp))
  have hW5 : Way w ((w4.alloc (.map #[] 0)).alloc (.cells #[.map (some w4.heap.size)] 71)) Fd d L s t (w4.heap.size + 1) w4.heap.size (fun k => w4.heap.size + 1 < k) { { Dsk.new (s.room : Int) with files := s.files } with off := s.off, fuse := s.fuse } :=
    ⟨hD4.out.below hB5, ⟨_, _, hT4.out.below hB5, ⟨hM5, [], hP5, (fun p hp => by cases hp), (fun _ _ _ _ => rfl), (fun i hi _ hd => absurd hi hd)⟩, fun k hk => ⟨hk.1, by simp; omega, by omega, by omega, by omega⟩⟩, hb4.out.trans (hB5.mono hb4.out.size)⟩
  replace hM5 := Lib.hid hM5
  replace hP5 := Lib.hid hP5
  replace hB5 := Lib.hid hB5
  have hd4 := hD4.out.lt
  generalize hw5 : (w4.alloc (.map #[] 0)).alloc (.cells #[.map (some w4.heap.size)] 71) = w5 at *
  have hz5 : w4.heap.size + 2 ≤ w5.heap.size := by rw [← hw5]; simp
  have hD5 := hW5.src
  have c25 := hD5.box.cell 2
  have hd5 := hD5.lt
  replace hW5 := Lib.hid hW5
  replace hD5 := Lib.hid hD5
  go_wp2_with (at_range; refine wpList_nm_range _ rfl _ 53 rfl 9 60 Try.underlying9 Try.underlying53 L.gL (mvM L.blk s.last) rfl hD5.out.last ?_; intro w6 hrg0 hg0 hs0)
  have hk6 : KeptBut w5 w6 (fun _ => False) := (KeptBut.refl w5 (fun _ => False)).then_grown hg0 (fun k e => by cases e)
  have hW6 := hW5.out.kept hk6 (fun k _ e => e.elim) hF
  have hgm : w.heap.size ≤ w4.heap.size := by omega
  have hrd : w4.heap.size + 1 < w5.heap.size := by omega
  generalize w4.heap.size = gm at *
  generalize w5.heap.size = rr at *
  clear hw5 c25 c2'
  have hhas : ∀ p ∈ s.last, Maps.has (nmD (mvM L.blk s.last)) (.string p.1) = true := by
    intro p hp
    rw [nmD_has, mvM_get]
    cases hg : getM p.1 s.last with
    | none => exact absurd rfl (getM_none hg p hp)
    | some i => rfl
  have hst0 : (s.last.filter fun q => !leftB (Maps.has (nmD (mvM L.blk s.last))) q.1) = [] := by
    rw [List.filter_eq_nil_iff]
    intro p hp
    have := hhas p hp
    unfold leftB
    rw [this]
    decide
  replace hst0 := Lib.hid hst0
  replace hW6 := Lib.hid hW6
  replace hrg0 := Lib.hid hrg0
  clear hhas
  go_wp2_with fail
  go_loopw [6] (fun _ wr => ∃ left cnt, wr.ranges Try.prog 9 ptrR L.gL rr (mvM L.blk s.last).length (nmD (mvM L.blk s.last)) left cnt ∧ Way w wr Fd d L s t (gm + 1) gm (fun k => k = rr) { room := s.room, fuse := s.fuse, off := s.off, files := s.files, names := [], last := s.last.filter fun q => !leftB left q.1, chg := [] }) (fun _ wr => wr.rangeLeft L.gL rr)
  case atStart => exact ⟨_, _, hrg0.out, by rw [hst0.out]; have := hW6.out.more (X' := fun k => k = rr) (fun k _ e => by show gm + 1 < k; omega); unfold Dsk.new at this; simp only [] at this; rw [show (min (max (s.room : Int) 0) 1048576).toNat = s.room from hrm.out] at this; exact this⟩
  case round =>
    obtain ⟨left, cnt, hrg, hW⟩ := hrel
    have hle := hrg.left_eq
    have hrg' := Lib.hid hrg
    go_wp2_with (at_next; refine wpList_nm_next _ rfl _ rfl 9 Try.underlying9 L.gL rr (mvM L.blk s.last) left cnt rfl hrg ?_ ?_)
    · intro hc0 hl0
      have hfin : (s.last.filter fun q => !leftB left q.1) = s.last := by
        rw [List.filter_eq_self]
        intro q _
        have : leftB left q.1 = false := hl0 _
        rw [this]
        rfl
      rw [hfin] at hW
      clear hfin hl0 hc0 hrg hrg' hle
      obtain ⟨Ft, Lt, hT, hA, hsep⟩ := hW.ex
      have hcl := Clone_any hT.last
      have b2 := hT.box.cell 2
      have htl2 := hT.lt
      replace hcl := Lib.hid hcl
      replace hT := Lib.hid hT
      replace hA := Lib.hid hA
      replace hsep := Lib.hid hsep
      replace hW := Lib.hid hW
      go_wp2_with fail
      refine hcl.out.mono ?_
      rintro e w8 ⟨rfl, hm8, hb8, hlt8⟩
      have hbx := hT.out.box.below hb8 htl2
      have g1 := hbx.frozen 1
      have b1 := hbx.cell 1
      have hk9 := (KeptBut.refl w8 (fun k => k = t)).then_set (b := t) (o := 1) (v := .map (some wr.heap.size)) rfl
      have hD9 := hT.out.reclone hm8 hb8 hlt8 hk9 (by simpa using hbx.set_ 1 (.map (some wr.heap.size)))
      have hS9 := (hW.out.src.below hb8).kept hk9 (fun k hk e => by have := hF k hk; omega)
      have hA9 : TwAt (w8.setCell ⟨t, 1, none⟩ (.map (some wr.heap.size))) s.files.length L { Lt with gN := wr.heap.size } (gm + 1) gm := by
        have hx := hA.out.kept ((KeptBut.of_below hb8 (S := fun k => k = t)).trans hk9 (fun _ _ e => e)) (fun e => (hsep.out t hT.out.inF.1).2.2.2.1 e.symm) (fun e => (hsep.out t hT.out.inF.1).2.2.1 e.symm)
        exact ⟨hx.box, hx.pm⟩
      have hz8 := hb8.size
      have hzW := hW.out.below.size
      have hagl := hA.out.box.lt
      have htw := (hsep.out t hT.out.inF.1).1
      have hW9 : Way w (w8.setCell ⟨t, 1, none⟩ (.map (some wr.heap.size))) Fd d L s t (gm + 1) gm (fun _ => False) (twS s 0) := by
        refine ⟨hS9, ⟨_, _, hD9, hA9, fun k hk => ?_⟩, (hW.out.below.trans (hb8.mono hzW)).trans (hk9.below (fun k e => by omega) (by omega))⟩
        rcases hk with hk | hk
        · obtain ⟨a, b, c, e, _⟩ := hsep.out k hk
          exact ⟨a, by have := hk9.size; omega, c, e, fun h => h⟩
        · exact ⟨by omega, by omega, by omega, by omega, fun h => h⟩
      replace hW9 := Lib.hid hW9
      have hD8 := hW.out.src.below hb8
      obtain ⟨A, cap, hvc, hncap, hcm, hat⟩ := chg_form hD8
      have b3 := hD8.box.cell 3
      rw [hvc] at b3
      have hd8 := hD8.lt
      have hdt : ¬ d = t := by have := hF d hD8.inF.1; omega
      replace hvc := Lib.hid hvc
      clear hD9 hS9 hA9 hk9 hbx hm8 hb8 hcl b2 hat hD8
      go_wp2_with fail
      generalize hw9 : w8.setCell ⟨t, 1, none⟩ (.map (some wr.heap.size)) = w9 at *
      clear hw9 g1 b1 b3
      clear cnt left hlt8 hz8 hzW htw hD4 hT4
      generalize hn2 : s.chg.length = n at *
      replace hW6 := Lib.hid hW6
      have hload := g.load
      unfold Dsk.load at hload
      rw [hn2] at hload
      go_loopw [64] (fun v wr => ∃ i : Nat, i ≤ n ∧ v = .int .i64 i ∧ Way w wr Fd d L s t (gm + 1) gm (fun _ => False) (twS s i)) (fun v _ => n - (intOf v).toNat)
      case atStart => exact ⟨0, Nat.zero_le _, rfl, hW9.out⟩
      case round =>
        obtain ⟨i, hi, rfl, hWr⟩ := hrel
        by_cases hlt : i < n
        · have hlt' : (i : Int) < n := by omega
          have hci : s.chg[i]? = some s.chg[i] := List.getElem?_eq_getElem (by omega)
          obtain ⟨A', cap', hvc', _, _, hat'⟩ := chg_form hWr.src
          obtain ⟨g', e, hown, hgl, x0, x1, x2⟩ := hat' i _ hci
          have hvv := hvc.out.symm.trans hvc'
          simp only [Value.slice.injEq, true_and] at hvv
          obtain ⟨hv1, hv2, hv3⟩ := hvv
          rw [← hv1] at e
          subst e
          clear hvc' hv1 hv2 hv3 hat' hown
          obtain ⟨pa, hpa⟩ := ptrV_form (s.chg[i].f.map L.blk)
          rw [hpa] at x2
          obtain ⟨y1, y2, y3, y4⟩ := g.ok.chg _ (List.getElem_mem (show i < s.chg.length by omega))
          have hlen := doesAll_len (s.chg.take i) s.last
          rw [List.length_take] at hlen
          have hlv : ∀ k, s.chg[i].f = some k → k < s.files.length ∧ ¬ L.dead k := fun k hk => ⟨y3 k hk, hWr.src.live.2.2.1 _ (List.mem_of_getElem? hci) k hk⟩
          generalize s.chg[i] = ch at *
          replace hpa := Lib.hid hpa
          replace hci := Lib.hid hci
          obtain ⟨Ft, Lt, hT, hA, hsep⟩ := hWr.ex
          have hAl : Below wr.heap.size wr (wr.alloc (.cells #[.string (bs ch.fr), .string (bs ch.to), .pointer pa] 68)) := (Below.refl _ _).alloc (Nat.le_refl _) _
          have hX5 : Blk (wr.alloc (.cells #[.string (bs ch.fr), .string (bs ch.to), .pointer pa] 68)) wr.heap.size 68 #[.string (bs ch.fr), .string (bs ch.to), .pointer pa] := Blk.new _ _ _
          have hS5 := hWr.src.below hAl
          have hT5 := hT.below hAl
          have hA5 := hA.kept (KeptBut.of_below hAl (S := fun _ => False)) (fun h => h) (fun h => h)
          have hcall := twc_any hS5 hT5 rfl hA5 ch.f hlv (fun f hf => (g.ok.file f hf).2) (fun k hk => by have := hF k hk; omega) (fun k hk => (hsep k hk).2.2.1)
          have hzr := hWr.below.size
          have hgA := hA.box.lt
          rw [hpa.out] at hcall
          replace hcall := Lib.hid hcall
          replace hWr := Lib.hid hWr
          replace hT := Lib.hid hT
          replace hA := Lib.hid hA
          replace hsep := Lib.hid hsep
          replace hS5 := Lib.hid hS5
          replace hT5 := Lib.hid hT5
          replace hA5 := Lib.hid hA5
          replace hlv := Lib.hid hlv
          go_wp2_with fail
          refine hcall.out.mono ?_
          rintro e w6b ⟨Lt', rfl, hS6, hT6, hA6, hk6b, hlv6⟩
          obtain ⟨pb, hpb⟩ := ptrV_form (ch.f.map Lt'.blk)
          rw [hpb]
          have hX6 := hX5.keptB hk6b (by omega)
          have hz6 := hk6b.size
          have hz5r : (wr.alloc (.cells #[.string (bs ch.fr), .string (bs ch.to), .pointer pa] 68)).heap.size = wr.heap.size + 1 := by simp
          have hsep6 : ∀ k, Fx Ft (wr.alloc (.cells #[.string (bs ch.fr), .string (bs ch.to), .pointer pa] 68)) w6b k → w.heap.size ≤ k ∧ k < w6b.heap.size ∧ k ≠ gm ∧ k ≠ gm + 1 ∧ k ≠ wr.heap.size := by
            rintro k (hk | hk)
            · obtain ⟨a, b, c, e, _⟩ := hsep.out k hk
              exact ⟨a, by omega, c, e, by omega⟩
            · exact ⟨by omega, hk.2, by omega, by omega, by omega⟩
          have hb6 : Below w.heap.size w w6b := (hWr.out.below.trans (hAl.mono hzr)).trans (hk6b.below (fun k e => by omega) (by omega))
          generalize hF6 : Fx Ft (wr.alloc (.cells #[.string (bs ch.fr), .string (bs ch.to), .pointer pa] 68)) w6b = F6 at *
          have hk7 := (KeptBut.refl w6b (fun k => k = wr.heap.size)).then_set (b := wr.heap.size) (o := 2) (v := .pointer pb) rfl
          have hX7 : Blk (w6b.setCell ⟨wr.heap.size, 2, none⟩ (.pointer pb)) wr.heap.size 68 #[.string (bs ch.fr), .string (bs ch.to), .pointer pb] := by simpa using hX6.set_ 2 (.pointer pb)
          have x2b := hX6.cell 2
          have f2b := hX6.frozen 2
          have hS7 := hS6.kept hk7 (fun k hk e => by have := hF k hk; omega)
          have hT7 := hT6.kept hk7 (fun k hk => (hsep6 k hk).2.2.2.2)
          have hA7 := hA6.kept hk7 (fun e : gm + 1 = wr.heap.size => by omega) (fun e : gm = wr.heap.size => by omega)
          have hz7 := hk7.size
          have hb7 : Below w.heap.size w (w6b.setCell ⟨wr.heap.size, 2, none⟩ (.pointer pb)) := hb6.trans (hk7.below (fun k e => by omega) (by omega))
          replace hX6 := Lib.hid hX6
          replace hX7 := Lib.hid hX7
          replace hS7 := Lib.hid hS7
          replace hT7 := Lib.hid hT7
          replace hA7 := Lib.hid hA7
          replace hb7 := Lib.hid hb7
          replace hsep6 := Lib.hid hsep6
          replace hlv6 := Lib.hid hlv6
          replace hpb := Lib.hid hpb
          clear hcall hS6 hT6 hA6 hk6b hk7 hb6 hF6 hS5 hT5 hA5 hX5 x0 x1 x2 hA hT hz5r
          clear hWr
          go_wp2_with fail
          generalize hw7 : w6b.setCell ⟨wr.heap.size, 2, none⟩ (.pointer pb) = w7b at *
          clear hw7 x2b f2b
          have x0 := hX7.out.cell 0
          have x1 := hX7.out.cell 1
          have x2 := hX7.out.cell 2
          have b1 := hT7.out.box.cell 1
          have hl7 := hX7.out.lt
          have ht7 := hT7.out.lt
          have hxc := @Ext.cell
          have hxf := @Ext.frozen
          refine wp_hide (fun Q0 hQ0 => ?_)
          refine wp_region_line (fun w' => ∃ x : Ext _, w' = x.w) [some false, some false, some false, some false, some false, none] 0 (by kernel_rfl) (by kernel_rfl) ⟨⟨_, (Below.refl _ _).drew⟩, rfl⟩ ?_
          simp only [earlyL, tailL]
          repeat (first | ((with_reducible refine wpMix_p ?_); go_big_quiet_step (fail); refine wpQuiet_nil ?_) | ((with_reducible refine wpMix_e ?_); go_big_quiet_step ((first | fail)); refine wpQuiet_nil ?_))
          refine wpMix_nil ?_
          clear hxc hxf
          intro wx hwx
          obtain ⟨x, hx⟩ := hwx
          have hb := x.below
          rw [← hx] at hb
          clear hx x
          have hT8 := hT7.out.below hb
          have hS8 := hS7.out.below hb
          have hA8 := hA7.out.kept (KeptBut.of_below hb (S := fun _ => False)) (fun h => h) (fun h => h)
          have hX8 := hX7.out.below hb hl7
          have hb8 := hb7.out.trans (hb.mono (by omega))
          have hz8 := hb.size
          have hcall := does_any wx Lt'.gN ((s.chg.take i).foldl doesC s.last) Lt'.blk ch hT8.names y1 y2 y4 (by omega)
          unfold chgVal at hcall
          rw [hpb.out] at hcall
          clear x0 x1 x2 b1 hb
          replace hcall := Lib.hid hcall
          replace hS8 := Lib.hid hS8
          replace hA8 := Lib.hid hA8
          replace hb8 := Lib.hid hb8
          refine wpTail_step ?_
          intro Q1 hQ1
          go_wp2_with fail
          refine hcall.out.mono ?_
          rintro e w9b ⟨rfl, hm9, hk9⟩
          have hgN := hsep6.out _ hT8.inF.2.1
          have hT9 := hT8.renames hk9 hm9 (fun p hp => by
            rcases doesC_mem hp with h1 | ⟨h1, rfl⟩
            · exact hT8.live.1 p h1
            · obtain ⟨i', hi'⟩ := Option.ne_none_iff_exists'.1 (y4 h1)
              simp only [hi', Option.getD_some]
              exact hlv6.out i' hi')
          have hX9 := hX8.keptB hk9 (fun e => hgN.2.2.2.2 e.symm)
          have hS9 := hS8.out.kept hk9 (fun k hk e => by have := hF k hk; have := hgN.1; omega)
          have hA9 := hA8.out.kept hk9 (fun e => hgN.2.2.2.1 e.symm) (fun e => hgN.2.2.1 e.symm)
          have hz9 := hk9.size
          have hb9 : Below w.heap.size w w9b := hb8.out.trans (hk9.below (fun k e => by have := hgN.1; omega) (by omega))
          clear hk9 hm9 hT8 hS8 hA8 hb8 hX8
          replace hT9 := Lib.hid hT9
          replace hS9 := Lib.hid hS9
          replace hA9 := Lib.hid hA9
          replace hb9 := Lib.hid hb9
          replace hgN := Lib.hid hgN
          go_wp2_with fail
          refine hQ1 _ _ rfl (fun h => absurd h (by decide)) ?_
          clear hQ1 Q1 hcall
          refine wpTail_nil ?_
          refine hQ0 _ _ ?_
          clear hQ0 Q0
          have b3 := hT9.out.box.cell 3
          have y0 := hX9.cell 0
          have y1' := hX9.cell 1
          have y2' := hX9.cell 2
          have hl9 := hX9.lt
          have ht9 := hT9.out.lt
          go_wp2_with fail
          have hxc := @Ext.cell
          have hxf := @Ext.frozen
          refine wp_hide (fun Q0 hQ0 => ?_)
          refine wp_region_line (fun w' => ∃ x : Ext _, w' = x.w) [some true, some false, some false, some false, some false, some false, none, none, none, none, none] 1 (by kernel_rfl) (by kernel_rfl) ⟨⟨_, (Below.refl _ _).drew⟩, rfl⟩ ?_
          simp only [earlyL, tailL]
          repeat (first | ((with_reducible refine wpMix_p ?_); go_big_quiet_step (fail); refine wpQuiet_nil ?_) | ((with_reducible refine wpMix_e ?_); go_big_quiet_step ((first | fail)); refine wpQuiet_nil ?_))
          refine wpMix_nil ?_
          clear hxc hxf
          intro wx hwx
          obtain ⟨x, hx⟩ := hwx
          have hb := x.below
          rw [← hx] at hb
          clear hx x
          have hbs := hb.size
          have hT10 := hT9.out.below hb
          have hS10 := hS9.out.below hb
          have hA10 := hA9.out.kept (KeptBut.of_below hb (S := fun _ => False)) (fun h => h) (fun h => h)
          have hb10 := hb9.out.trans (hb.mono (by omega))
          have hown := hT10.chg
          have hownx := World.ownsRow.alloc hown (.cells #[.string (bs ch.fr), .string (bs ch.to), .pointer pb] 68)
          have hrd := reads3' wx 68 (.string (bs ch.fr)) (.string (bs ch.to)) (.pointer pb)
          have hpv : ∀ u ∈ [Value.string (bs ch.fr), .string (bs ch.to), .pointer pb], u.oneCell' = true := by
            intro u hu
            simp at hu
            rcases hu with rfl | rfl | rfl <;> rfl
          clear b3 y0 y1' y2' hX9 hown
          replace hpv := Lib.hid hpv
          replace hT10 := Lib.hid hT10
          replace hS10 := Lib.hid hS10
          replace hA10 := Lib.hid hA10
          replace hb10 := Lib.hid hb10
          refine wpTail_step ?_
          intro Q1 hQ1
          go_wp2_with fail
          refine hQ1 _ _ rfl (fun _ => ⟨⟨_, hb.alloc hbs _⟩, rfl⟩) ?_
          clear hQ1 Q1
          refine wpTail_step ?_
          intro Q1 hQ1
          have hcgl : (twS s i).chg.length < 1073741824 := by
            show (s.chg.take i).length < _
            rw [List.length_take]
            omega
          go_wp2_with (at_builtin; refine wpList_append_any _ rfl (.tmp 83) (.tmp 85) 54 rfl 0 68 i0 (.agg #[.string ⟨#[]⟩, .string ⟨#[]⟩, .pointer none]) 3 40 Try.underlying54 hi0 hiz0 hiz1 hiz2 rfl (by omega) Lt'.vC (twS s i).chg.length (chgV Lt'.blk (twS s i).chg) rfl hownx (wx.heap.size + 1) (some ⟨wx.heap.size, 0, none⟩) 1 1 [.string (bs ch.fr), .string (bs ch.to), .pointer pb] rfl hrd hpv.out (by unfold maxLen; omega) (by omega) (by simp) ?_; intro v2 w2b hown2 hgr2 hat2)
          refine hQ1 _ _ rfl (fun h => absurd h (by decide)) ?_
          clear hQ1 Q1
          rw [← hpb.out] at hown2
          obtain ⟨hT11, hk11, c5, f5, A7, n7, cp7, h7⟩ := hT10.out.rechg (c := ch) hown2 hgr2 (by simpa using hat2) hlv6.out
          subst h7
          have hz11 := hk11.size
          have hf6 : ∀ k, F6 k → w.heap.size ≤ k ∧ k ≠ gm ∧ k ≠ gm + 1 := fun k hk => by
            obtain ⟨a, _, b, c, _⟩ := hsep6.out k hk
            exact ⟨a, b, c⟩
          have hS11 := hS10.out.kept hk11 (fun k hk e => by have := hF k hk; have := (hf6 k e).1; omega)
          have hA11 := hA10.out.kept hk11 (fun e => (hf6 _ e).2.2 rfl) (fun e => (hf6 _ e).2.1 rfl)
          have hb11 := hb10.out.trans (hk11.below (fun k e => (hf6 k e).1) (by omega))
          have htk : s.chg.take i ++ [ch] = s.chg.take (i + 1) := by rw [List.take_add_one, hci.out]; rfl
          have hnm : doesC ((s.chg.take i).foldl doesC s.last) ch = (s.chg.take (i + 1)).foldl doesC s.last := by
            rw [← htk, List.foldl_append]
            rfl
          have hWn : Way w (w2b.setCell ⟨t, 3, none⟩ (.slice A7 n7 cp7)) Fd d L s t (gm + 1) gm (fun _ => False) (twS s (i + 1)) := by
            refine ⟨hS11, ⟨Fx F6 wx w2b, { Lt' with vC := .slice A7 n7 cp7 }, ?_, ⟨hA11.box, hA11.pm⟩, fun k hk => ?_⟩, hb11⟩
            · have h0 := hT11
              simp only [twS] at h0
              rw [htk, hnm] at h0
              exact h0
            · have hz2b : (w2b.setCell ⟨t, 3, none⟩ (.slice A7 n7 cp7)).heap.size = w2b.heap.size := by simp
              rcases hk with hk | hk
              · obtain ⟨a, b, c, e, _⟩ := hsep6.out k hk
                exact ⟨a, by omega, c, e, fun h => h⟩
              · exact ⟨by omega, by omega, by omega, by omega, fun h => h⟩
          replace hWn := Lib.hid hWn
          clear hT11 hS11 hA11 hb11 hk11 hown2 hgr2 hat2 hownx hrd
          replace htk := Lib.hid htk
          replace hnm := Lib.hid hnm
          refine wpTail_step ?_
          intro Q1 hQ1
          go_wp2_with (fail)
          refine hQ1 _ _ rfl (fun h => absurd h (by decide)) ?_
          clear hQ1 Q1
          refine wpTail_step ?_
          intro Q1 hQ1
          go_wp2_with (fail)
          refine hQ1 _ _ rfl (fun h => absurd h (by decide)) ?_
          clear hQ1 Q1
          refine wpTail_step ?_
          intro Q1 hQ1
          go_wp2_with (fail)
          refine hQ1 _ _ rfl (fun h => absurd h (by decide)) ?_
          clear hQ1 Q1
          refine wpTail_nil ?_
          refine hQ0 _ _ ?_
          clear hQ0 Q0
          go_wp2_with fail
          go_roundw
          case rel => exact ⟨i + 1, by omega, by rfl, hWn.out⟩
          case measure => first | omega | (simp only [intOf]; omega)
        · obtain rfl : i = n := by omega
          have hlt' : ¬ (i : Int) < i := by omega
          obtain ⟨Ft, Lt, hT, hA, hsep⟩ := hWr.ex
          rw [← hn2, twS_all g.dir.now] at hT
          have hbw := hWr.below
          have hTm := hT.more (F' := fun k => w.heap.size ≤ k ∧ k < wr.heap.size) (fun k hk => ⟨(hsep k hk).1, (hsep k hk).2.1⟩)
          replace hT := Lib.hid hT
          replace hA := Lib.hid hA
          replace hsep := Lib.hid hsep
          replace hWr := Lib.hid hWr
          replace hbw := Lib.hid hbw
          replace hTm := Lib.hid hTm
          go_wp2_with fail
          go_ret
          exact ⟨_, rfl, ⟨_, hTm.out⟩, hbw.out⟩
    · intro x b w7 cnt1 hg hlx hrg1 hlt hg1 hs1 hen
      have hk7 : KeptBut wr w7 (fun k => k = rr) := (KeptBut.refl wr (fun k => k = rr)).then_grown hg1 (fun k e => (Option.some.inj e).symm)
      have hW7 := hW.kept hk7 (fun k _ e => ⟨e, by omega, by omega, by omega⟩) hF
      rw [mvM_get] at hg
      obtain ⟨i, hgi, rfl⟩ := Option.map_eq_some_iff.1 hg
      have hmi := getM_mem hgi
      obtain ⟨h24, hil⟩ := g.ok.last _ hmi
      have hfi : s.files[i]? = some s.files[i] := List.getElem?_eq_getElem hil
      have hfl := (g.ok.file _ (List.getElem_mem hil)).2
      have hdi := hW7.src.live.2.1 _ hmi
      obtain ⟨Ft, Lt, hT7, hA7, hsep⟩ := hW7.ex
      have htgm : ¬ t = gm := (hsep t hT7.inF.1).2.2.1
      obtain ⟨I, hI⟩ : ∃ I : World → Prop, I = fun w' => ∃ Ft' Lt', DskAt w' Fd d L s ∧ DskAt w' Ft' t Lt' { room := s.room, fuse := s.fuse, off := s.off, files := s.files, names := [], last := s.last.filter fun q => !leftB left q.1, chg := [] } ∧ TwAt w' s.files.length L Lt' (gm + 1) gm ∧ (∀ k, Ft' k → w.heap.size ≤ k ∧ k < w'.heap.size ∧ k ≠ gm ∧ k ≠ gm + 1 ∧ ¬ (fun k => k = rr) k) ∧ Lt'.gL = Lt.gL ∧ KeptBut w7 w' (fun k => k = gm) := ⟨_, rfl⟩
      have hI0 : I w7.drew := by
        rw [hI]
        have hb7 := (Below.refl w7.heap.size w7).drew
        exact ⟨Ft, Lt, hW7.src.below hb7, hT7.below hb7, hA7.kept ((KeptBut.refl w7 (fun _ => False)).drew) (fun e => e) (fun e => e), fun k hk => hsep k hk, rfl, (KeptBut.refl w7 _).drew⟩
      haveI hne : Nonempty (ExtP I) := ⟨⟨w7.drew, hI0⟩⟩
      have hxt : ∀ x : ExtP I, x.w.cell? ⟨t, 2, none⟩ = some (.map (some Lt.gL)) := by
        intro x
        have hx := Eq.mp (congrFun hI x.w) x.inv
        obtain ⟨Ft', Lt', _, a, _, _, b, _⟩ := hx
        rw [← b]
        exact a.box.cell 2
      replace hI := Lib.hid hI
      replace hW7 := Lib.hid hW7
      replace hT7 := Lib.hid hT7
      replace hA7 := Lib.hid hA7
      replace hrg1 := Lib.hid hrg1
      replace hsep := Lib.hid hsep
      replace hW := Lib.hid hW
      replace hgi := Lib.hid hgi
      replace hlx := Lib.hid hlx
      replace hfi := Lib.hid hfi
      clear hrg hg
      go_wp2_with fail
      refine wp_hide (fun Q0 hQ0 => ?_)
      refine wp_region_line (fun w' => ∃ x : ExtP I, w' = x.w) [some false, some false, some false, some false, some false, some false, some false, none, none] 1 (by kernel_rfl) (by kernel_rfl) ⟨⟨_, hI0⟩, rfl⟩ ?_
      simp only [earlyL, tailL]
      repeat (first | ((with_reducible refine wpMix_p ?_); go_big_quiet_step (fail); refine wpQuiet_nil ?_) | ((with_reducible refine wpMix_e ?_); go_big_quiet_step ((first | fail)); refine wpQuiet_nil ?_))
      refine wpMix_nil ?_
      intro wx hwx
      replace hwx : I wx := by obtain ⟨x, rfl⟩ := hwx; exact x.inv
      obtain ⟨Ft1, Lt1, hD8, hT8, hA8, hs8, hl8, hk8⟩ := Eq.mp (congrFun hI.out wx) hwx
      have hcall := tw_some hD8 hT8 rfl hA8 hfi.out hfl hdi (fun k hk => by have := hF k hk; omega) (fun k hk => (hs8 k hk).2.2.1)
      have hzx := hk8.size
      have hrl := ranges_lt hrg1.out
      have hgl := hA8.box.lt
      replace hcall := Lib.hid hcall
      replace hD8 := Lib.hid hD8
      replace hT8 := Lib.hid hT8
      replace hA8 := Lib.hid hA8
      replace hs8 := Lib.hid hs8
      replace hk8 := Lib.hid hk8
      replace hl8 := Lib.hid hl8
      clear hxt
      refine wpTail_step ?_
      intro Q1 hQ1
      go_wp2_with fail
      refine hcall.out.mono ?_
      rintro e w9 ⟨Lt2, rfl, hO⟩
      have hsep9 : ∀ k, Fx Ft1 wx w9 k → w.heap.size ≤ k ∧ k < w9.heap.size ∧ k ≠ gm ∧ k ≠ gm + 1 ∧ ¬ (fun k => k = rr) k := by
        have hz9 := hO.kept.size
        rintro k (hk | hk)
        · obtain ⟨a, b, c⟩ := hs8.out k hk
          exact ⟨a, by omega, c⟩
        · have hbw := hW7.out.below.size
          exact ⟨by omega, by omega, by omega, by omega, by show ¬ k = rr; omega⟩
      have hl9 := hO.lay.2.1.trans hl8.out
      have hk9 := hk8.out.trans hO.kept (fun _ _ e => e)
      have hI9 : I w9 := Eq.mpr (congrFun hI.out w9) ⟨_, Lt2, hO.src, hO.dst, hO.tw, hsep9, hl9, hk9⟩
      have hm9 := hO.dst.last
      have hin9 := hsep9 _ hO.dst.inF.2.2.1
      rw [hl9] at hm9 hin9
      have hlen : (mvM Lt2.blk (s.last.filter fun q => !leftB left q.1)).length < maxLen := by
        rw [mvM_len]
        have h1 := List.length_filter_le (fun q : List UInt8 × Nat => !leftB left q.1) s.last
        have h2 := g.load
        unfold Dsk.load at h2
        unfold maxLen
        omega
      have hxs : x.size ≤ maxLen := by
        have : x.size = x.data.toList.length := rfl
        unfold maxLen
        omega
      have hput : putM x.data.toList i (s.last.filter fun q => !leftB left q.1) = s.last.filter fun q => !leftB (fun z => left z && !z.sameKey (.string x.data.toList)) q.1 := by
        have h1 := put_filter (v := i) (done := fun k => !leftB left k) (by show (!leftB left x.data.toList) = false; have : leftB left x.data.toList = true := hlx.out; rw [this]; rfl) s.last hri.out hmi
        refine h1.trans (List.filter_congr fun q _ => ?_)
        show (!leftB left q.1 || q.1 == x.data.toList) = !(leftB left q.1 && !(q.1 == x.data.toList))
        cases leftB left q.1 <;> simp
      replace hO := Lib.hid hO
      replace hsep9 := Lib.hid hsep9
      replace hin9 := Lib.hid hin9
      replace hm9 := Lib.hid hm9
      replace hlen := Lib.hid hlen
      replace hk9 := Lib.hid hk9
      replace hl9 := Lib.hid hl9
      replace hput := Lib.hid hput
      replace hxs := Lib.hid hxs
      go_wp2_with fail
      refine hQ1 _ _ rfl (fun _ => ⟨⟨_, hI9⟩, rfl⟩) ?_
      clear hQ1 Q1 hI9 hwx hI hne
      refine wpTail_step ?_
      intro Q1 hQ1
      go_wp2_with (at_mapUpdate; refine wpList_nm_store _ rfl _ _ _ 53 rfl 9 60 Try.underlying9 Try.underlying53 Lt.gL _ rfl hm9.out hlen.out x (Lt2.blk i) rfl rfl hxs.out ?_; intro w10 hm10 ht10)
      refine hQ1 _ _ rfl (fun h => absurd h (by decide)) ?_
      clear hQ1 Q1
      refine wpTail_nil ?_
      refine hQ0 _ _ ?_
      clear hQ0 Q0
      rw [← mvM_put, hput.out] at hm10
      have hk10 : KeptBut w9 w10 (fun k => k = Lt.gL) := (KeptBut.refl w9 (fun k => k = Lt.gL)).then_grown ht10.grown (fun k e => (Option.some.inj e).symm)
      have hT10 := hO.out.dst.relasts (m := s.last.filter fun q => !leftB (fun z => left z && !z.sameKey (.string x.data.toList)) q.1) (hl9.out.symm ▸ hk10) (hl9.out.symm ▸ hm10) (fun p hp => by
        have hlv := hO.out.dst.live.2.1
        by_cases e : p ∈ s.last.filter fun q => !leftB left q.1
        · exact hlv p e
        · rw [← hput.out] at hp
          rcases (putM_mem _ _ _ _).1 hp with h1 | h1
          · rw [h1]
            exact hO.out.live
          · exact absurd h1.1 e)
      have hz10 := hk10.size
      have hW10 : Way w w10 Fd d L s t (gm + 1) gm (fun k => k = rr) { room := s.room, fuse := s.fuse, off := s.off, files := s.files, names := [], last := s.last.filter fun q => !leftB (fun z => left z && !z.sameKey (.string x.data.toList)) q.1, chg := [] } := by
        refine ⟨hO.out.src.kept hk10 (fun k hk e => by have := hF k hk; have := hin9.out.1; omega), ⟨_, Lt2, hT10, hO.out.tw.kept hk10 (fun e => hin9.out.2.2.2.1 e.symm) (fun e => hin9.out.2.2.1 e.symm), fun k hk => ?_⟩, ?_⟩
        · obtain ⟨a, b, c⟩ := hsep9.out k hk
          exact ⟨a, by omega, c⟩
        · exact (hW7.out.below.trans (hk9.out.below (fun k e => by omega) hW7.out.below.size)).trans (hk10.below (fun k e => by have := hin9.out.1; omega) (by have := hk9.out.size; have := hW7.out.below.size; omega))
      have hgLl : L.gL < w.heap.size := hF _ (hW7.out.src.inF.2.2.1)
      have hrg10 := ranges_block hrg1.out (((hk9.out.block L.gL (by omega) (by omega)).symm.trans (hk10.block L.gL (by have := hk9.out.size; omega) (by have := hin9.out.1; omega)).symm).symm) (((hk9.out.block rr (by omega) (by omega)).symm.trans (hk10.block rr (by have := hk9.out.size; omega) (by have := hin9.out.2.2.2.2; omega)).symm).symm)
      go_wp2_with fail
      go_roundw
      case rel => exact ⟨_, _, hrg10, hW10⟩
      case measure => rw [hrg10.left_eq, hle]; exact hlt
end Go.Proofs.Ytkhicfoikkllmaa
