/- Contracts: Twin. Contracts: slices.Equal of rows of bytes, alike: at equal ones. Contracts: alike, at equal files; Same's function of changes. Contracts: maps.EqualFunc and slices.EqualFunc of two disks that are alike. Contracts: Same, of disks that are alike. A twin beside a disk; rounds without their batches (for WalFull, WalParts). A region that draws its order, by tasks: an invariant that sees the operations' values, too. WalFull's last way: what stands in the region that draws its order. -/
import Derived.Test.YtdbpfemkjfogoaaGreatDoorM20
import Derived.Test.YtdbpfemkjfogoaaGreatDoorM00
namespace Go.Proofs.YtdbpfemkjfogoaaGreatDoor
open Go.RowKit
set_option linter.unusedVariables false
set_option linter.unusedSimpArgs false
set_option maxRecDepth 100000 in
set_option maxHeartbeats 8000000 in
theorem Twin_any {w : World} {Fd : Nat → Prop} {d : Nat} {L : Lay} {s : Dsk} {m : Nat} (hD : DskAt w Fd d L s) (g : s.Good m) (hm : m ≤ 536870912) (hF : ∀ k, Fd k → k < w.heap.size) :
    Calls Tryz.prog 33 #[.pointer (some ⟨d, 0, none⟩)] w fun e w' => ∃ t L', e = .returned (.pointer (some ⟨t, 0, none⟩)) ∧ DskAt w' (fun k => w.heap.size ≤ k ∧ k < w'.heap.size) t L' s ∧ Below w.heap.size w w' := by
  obtain ⟨i0, hi0, hiz0, hiz1, hiz2⟩ := info_parts chg_info
  have hn := Lib.hid (none_any hD)
  have hmm := @run_makeMap Tryz.prog
  have c0 := hD.box.cell 0
  have hdl := hD.lt
  have hroom := g.ok.room
  have hnew := New_any (s.room : Int) w
  have hrm : ((Dsk.new (s.room : Int)).room : Nat) = s.room := by unfold Dsk.new; simp only []; omega
  have hrising := hD.last.rising Tryz.underlying9
  have hri : s.last.Pairwise (fun p q => bytesBefore p.1 q.1 = true) := by
    unfold mvM at hrising
    rw [List.pairwise_map] at hrising
    exact hrising
  replace hnew := Lib.hid hnew
  replace hrm := Lib.hid hrm
  replace hri := Lib.hid hri
  clear hrising
  go_enter Tryz.func33, Tryz.ntmps33
  go_wp2_with fail
  refine hn.out.mono ?_
  rintro e w' ⟨rfl, rfl⟩
  go_wp2_with fail
  refine hnew.out.mono ?_
  rintro e w1 ⟨t, rfl, ⟨L1, hT1⟩, hb1⟩
  have hD1 := hD.below hb1
  have hT2 := hT1.ghost s.files
  have c4 := hD1.box.cell 4
  have c5 := hD1.box.cell 5
  have hz1 := hb1.size
  have htl := hT2.lt
  have htF := hT2.inF.1
  have hd1 := hD1.lt
  replace hnew := Lib.hid hnew
  replace hT1 := Lib.hid hT1
  clear c0
  go_wp2_with fail
  have hxc := @Ext.cell
  have hxf := @Ext.frozen
  refine wp_hide (fun Q0 hQ0 => ?_)
  refine wp_region_line (fun w' => ∃ x : Ext _, w' = x.w) [some false, some true, some false, some false, some false, some false, some false, some false, some false, some false, some false, some false, none, none, none, none] 0 (by kernel_rfl) (by kernel_rfl) ⟨⟨_, (Below.refl _ _).drew⟩, rfl⟩ ?_
  simp only [earlyL, tailL]
  repeat (first | ((with_reducible refine wpMix_p ?_); go_big_quiet_step (fail); refine wpQuiet_nil ?_) | ((with_reducible refine wpMix_e ?_); go_big_quiet_step ((first | fail)); refine wpQuiet_nil ?_))
  refine wpMix_nil ?_
  clear hxc hxf
  intro wx hwx
  obtain ⟨x, hx⟩ := hwx
  have hb := x.below
  rw [← hx] at hb
  clear hx x
  have hD3 := hD1.below hb
  have hT3 := hT2.below hb
  have hb3 := hb1.trans (hb.mono hz1)
  have q4 := hT3.box.cell 4
  have q5 := hT3.box.cell 5
  have r4 := hT3.box.frozen 4
  have r5 := hT3.box.frozen 5
  have hk4 := ((KeptBut.refl wx (fun k => k = t)).then_set (b := t) (o := 4) (v := .bool s.off) rfl).then_set (b := t) (o := 5) (v := .int .i64 s.fuse) rfl
  have hT4 := hT3.rebox (s' := { { Dsk.new (s.room : Int) with files := s.files } with off := s.off, fuse := s.fuse }) hk4 (by simpa using (hT3.box.set_ 4 (.bool s.off)).set_ 5 (.int .i64 s.fuse)) rfl rfl rfl rfl
  have hD4 := hD3.kept hk4 (fun k hk e => by have := hF k hk; omega)
  have hb4 : Below w.heap.size w _ := hb3.trans (hk4.below (fun k e => by omega) (by have := hb3.size; omega))
  have c2 := hD3.box.cell 2
  have hdx := hD3.lt
  have htx := hT3.lt
  have hdt : ¬ d = t := by omega
  have hxz : w.heap.size ≤ wx.heap.size := hb3.size
  have hxz1 : w1.heap.size ≤ wx.heap.size := hb.size
  replace hD3 := Lib.hid hD3
  replace hT3 := Lib.hid hT3
  replace hT4 := Lib.hid hT4
  replace hD4 := Lib.hid hD4
  replace hb4 := Lib.hid hb4
  replace hD1 := Lib.hid hD1
  replace hT2 := Lib.hid hT2
  clear hk4 hb3 hb c4 c5
  refine wpTail_step ?_
  intro Q1 hQ1
  go_wp2_with (fail)
  refine hQ1 _ _ rfl (fun h => absurd h (by decide)) ?_
  clear hQ1 Q1
  refine wpTail_step ?_
  intro Q1 hQ1
  go_wp2_with (fail)
  refine hQ1 _ _ rfl (fun h => absurd h (by decide)) ?_
  clear hQ1 Q1
  refine wpTail_step ?_
  intro Q1 hQ1
  go_wp2_with (fail)
  refine hQ1 _ _ rfl (fun h => absurd h (by decide)) ?_
  clear hQ1 Q1
  refine wpTail_step ?_
  intro Q1 hQ1
  go_wp2_with (fail)
  refine hQ1 _ _ rfl (fun h => absurd h (by decide)) ?_
  clear hQ1 Q1
  refine wpTail_nil ?_
  refine hQ0 _ _ ?_
  clear hQ0 Q0
  generalize hw4 : (wx.setCell ⟨t, 4, none⟩ (.bool s.off)).setCell ⟨t, 5, none⟩ (.int .i64 s.fuse) = w4 at *
  have hz4 : wx.heap.size ≤ w4.heap.size := by rw [← hw4]; simp
  have c2' : w4.cell? ⟨d, 2, none⟩ = some (.map (some L.gL)) := hD4.out.box.cell 2
  clear hw4 q4 q5 r4 r5 c2
  have hM5 : Blk ((w4.alloc (.map #[] 0)).alloc (.cells #[.map (some w4.heap.size)] 138)) (w4.heap.size + 1) 138 #[.map (some w4.heap.size)] := by
    have h0 : Blk ((w4.alloc (.map #[] 0)).alloc (.cells #[.map (some w4.heap.size)] 138)) (w4.alloc (.map #[] 0)).heap.size 138 #[.map (some w4.heap.size)] := Blk.new _ _ _
    simpa using h0
  have hB5 : Below w4.heap.size w4 ((w4.alloc (.map #[] 0)).alloc (.cells #[.map (some w4.heap.size)] 138)) := ((Below.refl _ _).alloc (Nat.le_refl _) _).alloc (by simp) _
  have hP5 : PM ((w4.alloc (.map #[] 0)).alloc (.cells #[.map (some w4.heap.size)] 138)) w4.heap.size [] := (PM.new w4).block (Below.heap_alloc _ _ _ (by simp))
  have hW5 : Way w ((w4.alloc (.map #[] 0)).alloc (.cells #[.map (some w4.heap.size)] 138)) Fd d L s t (w4.heap.size + 1) w4.heap.size (fun k => w4.heap.size + 1 < k) { { Dsk.new (s.room : Int) with files := s.files } with off := s.off, fuse := s.fuse } :=
    ⟨hD4.out.below hB5, ⟨_, _, hT4.out.below hB5, ⟨hM5, [], hP5, (fun p hp => by cases hp), (fun _ _ _ _ => rfl), (fun i hi _ hd => absurd hi hd)⟩, fun k hk => ⟨hk.1, by simp; omega, by omega, by omega, by omega⟩⟩, hb4.out.trans (hB5.mono hb4.out.size)⟩
  replace hM5 := Lib.hid hM5
  replace hP5 := Lib.hid hP5
  replace hB5 := Lib.hid hB5
  have hd4 := hD4.out.lt
  generalize hw5 : (w4.alloc (.map #[] 0)).alloc (.cells #[.map (some w4.heap.size)] 138) = w5 at *
  have hz5 : w4.heap.size + 2 ≤ w5.heap.size := by rw [← hw5]; simp
  have hD5 := hW5.src
  have c25 := hD5.box.cell 2
  have hd5 := hD5.lt
  replace hW5 := Lib.hid hW5
  replace hD5 := Lib.hid hD5
  go_wp2_with (at_range; refine wpList_nm_range _ rfl _ 86 rfl 9 90 Tryz.underlying9 Tryz.underlying86 L.gL (mvM L.blk s.last) rfl hD5.out.last ?_; intro w6 hrg0 hg0 hs0)
  have hk6 : KeptBut w5 w6 (fun _ => False) := (KeptBut.refl w5 (fun _ => False)).then_grown hg0 (fun k e => by cases e)
  have hW6 := hW5.out.kept hk6 (fun k _ e => e.elim) hF
  have hgm : w.heap.size ≤ w4.heap.size := by omega
  have hrd : w4.heap.size + 1 < w5.heap.size := by omega
  generalize w4.heap.size = gm at *
  generalize w5.heap.size = rr at *
  clear hw5 c25 c2'
  have hhas : ∀ p ∈ s.last, Maps.has (nmD (mvM L.blk s.last)) (.string p.1) = true := by
    intro p hp
    rw [nmD_has, mvM_get]
    cases hg : getM p.1 s.last with
    | none => exact absurd rfl (getM_none hg p hp)
    | some i => rfl
  have hst0 : (s.last.filter fun q => !leftB (Maps.has (nmD (mvM L.blk s.last))) q.1) = [] := by
    rw [List.filter_eq_nil_iff]
    intro p hp
    have := hhas p hp
    unfold leftB
    rw [this]
    decide
  replace hst0 := Lib.hid hst0
  replace hW6 := Lib.hid hW6
  replace hrg0 := Lib.hid hrg0
  clear hhas
  go_wp2_with fail
  go_loopw [6] (fun _ wr => ∃ left cnt, wr.ranges Tryz.prog 9 ptrR L.gL rr (mvM L.blk s.last).length (nmD (mvM L.blk s.last)) left cnt ∧ Way w wr Fd d L s t (gm + 1) gm (fun k => k = rr) { room := s.room, fuse := s.fuse, off := s.off, files := s.files, names := [], last := s.last.filter fun q => !leftB left q.1, chg := [] }) (fun _ wr => wr.rangeLeft L.gL rr)
  case atStart => exact ⟨_, _, hrg0.out, by rw [hst0.out]; have := hW6.out.more (X' := fun k => k = rr) (fun k _ e => by show gm + 1 < k; omega); unfold Dsk.new at this; simp only [] at this; rw [show (min (max (s.room : Int) 0) 1048576).toNat = s.room from hrm.out] at this; exact this⟩
  case round =>
    obtain ⟨left, cnt, hrg, hW⟩ := hrel
    have hle := hrg.left_eq
    have hrg' := Lib.hid hrg
    go_wp2_with (at_next; refine wpList_nm_next _ rfl _ rfl 9 Tryz.underlying9 L.gL rr (mvM L.blk s.last) left cnt rfl hrg ?_ ?_)
    · intro hc0 hl0
      have hfin : (s.last.filter fun q => !leftB left q.1) = s.last := by
        rw [List.filter_eq_self]
        intro q _
        have : leftB left q.1 = false := hl0 _
        rw [this]
        rfl
      rw [hfin] at hW
      clear hfin hl0 hc0 hrg hrg' hle
      obtain ⟨Ft, Lt, hT, hA, hsep⟩ := hW.ex
      have hcl := Clone_any hT.last
      have b2 := hT.box.cell 2
      have htl2 := hT.lt
      replace hcl := Lib.hid hcl
      replace hT := Lib.hid hT
      replace hA := Lib.hid hA
      replace hsep := Lib.hid hsep
      replace hW := Lib.hid hW
      go_wp2_with fail
      refine hcl.out.mono ?_
      rintro e w8 ⟨rfl, hm8, hb8, hlt8⟩
      have hbx := hT.out.box.below hb8 htl2
      have g1 := hbx.frozen 1
      have b1 := hbx.cell 1
      have hk9 := (KeptBut.refl w8 (fun k => k = t)).then_set (b := t) (o := 1) (v := .map (some wr.heap.size)) rfl
      have hD9 := hT.out.reclone hm8 hb8 hlt8 hk9 (by simpa using hbx.set_ 1 (.map (some wr.heap.size)))
      have hS9 := (hW.out.src.below hb8).kept hk9 (fun k hk e => by have := hF k hk; omega)
      have hA9 : TwAt (w8.setCell ⟨t, 1, none⟩ (.map (some wr.heap.size))) s.files.length L { Lt with gN := wr.heap.size } (gm + 1) gm := by
        have hx := hA.out.kept ((KeptBut.of_below hb8 (S := fun k => k = t)).trans hk9 (fun _ _ e => e)) (fun e => (hsep.out t hT.out.inF.1).2.2.2.1 e.symm) (fun e => (hsep.out t hT.out.inF.1).2.2.1 e.symm)
        exact ⟨hx.box, hx.pm⟩
      have hz8 := hb8.size
      have hzW := hW.out.below.size
      have hagl := hA.out.box.lt
      have htw := (hsep.out t hT.out.inF.1).1
      have hW9 : Way w (w8.setCell ⟨t, 1, none⟩ (.map (some wr.heap.size))) Fd d L s t (gm + 1) gm (fun _ => False) (twS s 0) := by
        refine ⟨hS9, ⟨_, _, hD9, hA9, fun k hk => ?_⟩, (hW.out.below.trans (hb8.mono hzW)).trans (hk9.below (fun k e => by omega) (by omega))⟩
        rcases hk with hk | hk
        · obtain ⟨a, b, c, e, _⟩ := hsep.out k hk
          exact ⟨a, by have := hk9.size; omega, c, e, fun h => h⟩
        · exact ⟨by omega, by omega, by omega, by omega, fun h => h⟩
      replace hW9 := Lib.hid hW9
      have hD8 := hW.out.src.below hb8
      obtain ⟨A, cap, hvc, hncap, hcm, hat⟩ := chg_form hD8
      have b3 := hD8.box.cell 3
      rw [hvc] at b3
      have hd8 := hD8.lt
      have hdt : ¬ d = t := by have := hF d hD8.inF.1; omega
      replace hvc := Lib.hid hvc
      clear hD9 hS9 hA9 hk9 hbx hm8 hb8 hcl b2 hat hD8
      go_wp2_with fail
      generalize hw9 : w8.setCell ⟨t, 1, none⟩ (.map (some wr.heap.size)) = w9 at *
      clear hw9 g1 b1 b3
      clear cnt left hlt8 hz8 hzW htw hD4 hT4
      generalize hn2 : s.chg.length = n at *
      replace hW6 := Lib.hid hW6
      have hload := g.load
      unfold Dsk.load at hload
      rw [hn2] at hload
      go_loopw [64] (fun v wr => ∃ i : Nat, i ≤ n ∧ v = .int .i64 i ∧ Way w wr Fd d L s t (gm + 1) gm (fun _ => False) (twS s i)) (fun v _ => n - (intOf v).toNat)
      case atStart => exact ⟨0, Nat.zero_le _, rfl, hW9.out⟩
      case round =>
        obtain ⟨i, hi, rfl, hWr⟩ := hrel
        by_cases hlt : i < n
        · have hlt' : (i : Int) < n := by omega
          have hci : s.chg[i]? = some s.chg[i] := List.getElem?_eq_getElem (by omega)
          obtain ⟨A', cap', hvc', _, _, hat'⟩ := chg_form hWr.src
          obtain ⟨g', e, hown, hgl, x0, x1, x2⟩ := hat' i _ hci
          have hvv := hvc.out.symm.trans hvc'
          simp only [Value.slice.injEq, true_and] at hvv
          obtain ⟨hv1, hv2, hv3⟩ := hvv
          rw [← hv1] at e
          subst e
          clear hvc' hv1 hv2 hv3 hat' hown
          obtain ⟨pa, hpa⟩ := ptrV_form (s.chg[i].f.map L.blk)
          rw [hpa] at x2
          obtain ⟨y1, y2, y3, y4⟩ := g.ok.chg _ (List.getElem_mem (show i < s.chg.length by omega))
          have hlen := doesAll_len (s.chg.take i) s.last
          rw [List.length_take] at hlen
          have hlv : ∀ k, s.chg[i].f = some k → k < s.files.length ∧ ¬ L.dead k := fun k hk => ⟨y3 k hk, hWr.src.live.2.2.1 _ (List.mem_of_getElem? hci) k hk⟩
          generalize s.chg[i] = ch at *
          replace hpa := Lib.hid hpa
          replace hci := Lib.hid hci
          obtain ⟨Ft, Lt, hT, hA, hsep⟩ := hWr.ex
          have hAl : Below wr.heap.size wr (wr.alloc (.cells #[.string (bs ch.fr), .string (bs ch.to), .pointer pa] 92)) := (Below.refl _ _).alloc (Nat.le_refl _) _
          have hX5 : Blk (wr.alloc (.cells #[.string (bs ch.fr), .string (bs ch.to), .pointer pa] 92)) wr.heap.size 92 #[.string (bs ch.fr), .string (bs ch.to), .pointer pa] := Blk.new _ _ _
          have hS5 := hWr.src.below hAl
          have hT5 := hT.below hAl
          have hA5 := hA.kept (KeptBut.of_below hAl (S := fun _ => False)) (fun h => h) (fun h => h)
          have hcall := twc_any hS5 hT5 rfl hA5 ch.f hlv (fun f hf => (g.ok.file f hf).2) (fun k hk => by have := hF k hk; omega) (fun k hk => (hsep k hk).2.2.1)
          have hzr := hWr.below.size
          have hgA := hA.box.lt
          rw [hpa.out] at hcall
          replace hcall := Lib.hid hcall
          replace hWr := Lib.hid hWr
          replace hT := Lib.hid hT
          replace hA := Lib.hid hA
          replace hsep := Lib.hid hsep
          replace hS5 := Lib.hid hS5
          replace hT5 := Lib.hid hT5
          replace hA5 := Lib.hid hA5
          replace hlv := Lib.hid hlv
          go_wp2_with fail
          refine hcall.out.mono ?_
          rintro e w6b ⟨Lt', rfl, hS6, hT6, hA6, hk6b, hlv6⟩
          obtain ⟨pb, hpb⟩ := ptrV_form (ch.f.map Lt'.blk)
          rw [hpb]
          have hX6 := hX5.keptB hk6b (by omega)
          have hz6 := hk6b.size
          have hz5r : (wr.alloc (.cells #[.string (bs ch.fr), .string (bs ch.to), .pointer pa] 92)).heap.size = wr.heap.size + 1 := by simp
          have hsep6 : ∀ k, Fx Ft (wr.alloc (.cells #[.string (bs ch.fr), .string (bs ch.to), .pointer pa] 92)) w6b k → w.heap.size ≤ k ∧ k < w6b.heap.size ∧ k ≠ gm ∧ k ≠ gm + 1 ∧ k ≠ wr.heap.size := by
            rintro k (hk | hk)
            · obtain ⟨a, b, c, e, _⟩ := hsep.out k hk
              exact ⟨a, by omega, c, e, by omega⟩
            · exact ⟨by omega, hk.2, by omega, by omega, by omega⟩
          have hb6 : Below w.heap.size w w6b := (hWr.out.below.trans (hAl.mono hzr)).trans (hk6b.below (fun k e => by omega) (by omega))
          generalize hF6 : Fx Ft (wr.alloc (.cells #[.string (bs ch.fr), .string (bs ch.to), .pointer pa] 92)) w6b = F6 at *
          have hk7 := (KeptBut.refl w6b (fun k => k = wr.heap.size)).then_set (b := wr.heap.size) (o := 2) (v := .pointer pb) rfl
          have hX7 : Blk (w6b.setCell ⟨wr.heap.size, 2, none⟩ (.pointer pb)) wr.heap.size 92 #[.string (bs ch.fr), .string (bs ch.to), .pointer pb] := by simpa using hX6.set_ 2 (.pointer pb)
          have x2b := hX6.cell 2
          have f2b := hX6.frozen 2
          have hS7 := hS6.kept hk7 (fun k hk e => by have := hF k hk; omega)
          have hT7 := hT6.kept hk7 (fun k hk => (hsep6 k hk).2.2.2.2)
          have hA7 := hA6.kept hk7 (fun e : gm + 1 = wr.heap.size => by omega) (fun e : gm = wr.heap.size => by omega)
          have hz7 := hk7.size
          have hb7 : Below w.heap.size w (w6b.setCell ⟨wr.heap.size, 2, none⟩ (.pointer pb)) := hb6.trans (hk7.below (fun k e => by omega) (by omega))
          replace hX6 := Lib.hid hX6
          replace hX7 := Lib.hid hX7
          replace hS7 := Lib.hid hS7
          replace hT7 := Lib.hid hT7
          replace hA7 := Lib.hid hA7
          replace hb7 := Lib.hid hb7
          replace hsep6 := Lib.hid hsep6
          replace hlv6 := Lib.hid hlv6
          replace hpb := Lib.hid hpb
          clear hcall hS6 hT6 hA6 hk6b hk7 hb6 hF6 hS5 hT5 hA5 hX5 x0 x1 x2 hA hT hz5r
          clear hWr
          go_wp2_with fail
          generalize hw7 : w6b.setCell ⟨wr.heap.size, 2, none⟩ (.pointer pb) = w7b at *
          clear hw7 x2b f2b
          have x0 := hX7.out.cell 0
          have x1 := hX7.out.cell 1
          have x2 := hX7.out.cell 2
          have b1 := hT7.out.box.cell 1
          have hl7 := hX7.out.lt
          have ht7 := hT7.out.lt
          have hxc := @Ext.cell
          have hxf := @Ext.frozen
          refine wp_hide (fun Q0 hQ0 => ?_)
          refine wp_region_line (fun w' => ∃ x : Ext _, w' = x.w) [some false, some false, some false, some false, some false, none] 0 (by kernel_rfl) (by kernel_rfl) ⟨⟨_, (Below.refl _ _).drew⟩, rfl⟩ ?_
          simp only [earlyL, tailL]
          repeat (first | ((with_reducible refine wpMix_p ?_); go_big_quiet_step (fail); refine wpQuiet_nil ?_) | ((with_reducible refine wpMix_e ?_); go_big_quiet_step ((first | fail)); refine wpQuiet_nil ?_))
          refine wpMix_nil ?_
          clear hxc hxf
          intro wx hwx
          obtain ⟨x, hx⟩ := hwx
          have hb := x.below
          rw [← hx] at hb
          clear hx x
          have hT8 := hT7.out.below hb
          have hS8 := hS7.out.below hb
          have hA8 := hA7.out.kept (KeptBut.of_below hb (S := fun _ => False)) (fun h => h) (fun h => h)
          have hX8 := hX7.out.below hb hl7
          have hb8 := hb7.out.trans (hb.mono (by omega))
          have hz8 := hb.size
          have hcall := does_any wx Lt'.gN ((s.chg.take i).foldl doesC s.last) Lt'.blk ch hT8.names y1 y2 y4 (by omega)
          unfold chgVal at hcall
          rw [hpb.out] at hcall
          clear x0 x1 x2 b1 hb
          replace hcall := Lib.hid hcall
          replace hS8 := Lib.hid hS8
          replace hA8 := Lib.hid hA8
          replace hb8 := Lib.hid hb8
          refine wpTail_step ?_
          intro Q1 hQ1
          go_wp2_with fail
          refine hcall.out.mono ?_
          rintro e w9b ⟨rfl, hm9, hk9⟩
          have hgN := hsep6.out _ hT8.inF.2.1
          have hT9 := hT8.renames hk9 hm9 (fun p hp => by
            rcases doesC_mem hp with h1 | ⟨h1, rfl⟩
            · exact hT8.live.1 p h1
            · obtain ⟨i', hi'⟩ := Option.ne_none_iff_exists'.1 (y4 h1)
              simp only [hi', Option.getD_some]
              exact hlv6.out i' hi')
          have hX9 := hX8.keptB hk9 (fun e => hgN.2.2.2.2 e.symm)
          have hS9 := hS8.out.kept hk9 (fun k hk e => by have := hF k hk; have := hgN.1; omega)
          have hA9 := hA8.out.kept hk9 (fun e => hgN.2.2.2.1 e.symm) (fun e => hgN.2.2.1 e.symm)
          have hz9 := hk9.size
          have hb9 : Below w.heap.size w w9b := hb8.out.trans (hk9.below (fun k e => by have := hgN.1; omega) (by omega))
          clear hk9 hm9 hT8 hS8 hA8 hb8 hX8
          replace hT9 := Lib.hid hT9
          replace hS9 := Lib.hid hS9
          replace hA9 := Lib.hid hA9
          replace hb9 := Lib.hid hb9
          replace hgN := Lib.hid hgN
          go_wp2_with fail
          refine hQ1 _ _ rfl (fun h => absurd h (by decide)) ?_
          clear hQ1 Q1 hcall
          refine wpTail_nil ?_
          refine hQ0 _ _ ?_
          clear hQ0 Q0
          have b3 := hT9.out.box.cell 3
          have y0 := hX9.cell 0
          have y1' := hX9.cell 1
          have y2' := hX9.cell 2
          have hl9 := hX9.lt
          have ht9 := hT9.out.lt
          go_wp2_with fail
          have hxc := @Ext.cell
          have hxf := @Ext.frozen
          refine wp_hide (fun Q0 hQ0 => ?_)
          refine wp_region_line (fun w' => ∃ x : Ext _, w' = x.w) [some true, some false, some false, some false, some false, some false, none, none, none, none, none] 1 (by kernel_rfl) (by kernel_rfl) ⟨⟨_, (Below.refl _ _).drew⟩, rfl⟩ ?_
          simp only [earlyL, tailL]
          repeat (first | ((with_reducible refine wpMix_p ?_); go_big_quiet_step (fail); refine wpQuiet_nil ?_) | ((with_reducible refine wpMix_e ?_); go_big_quiet_step ((first | fail)); refine wpQuiet_nil ?_))
          refine wpMix_nil ?_
          clear hxc hxf
          intro wx hwx
          obtain ⟨x, hx⟩ := hwx
          have hb := x.below
          rw [← hx] at hb
          clear hx x
          have hbs := hb.size
          have hT10 := hT9.out.below hb
          have hS10 := hS9.out.below hb
          have hA10 := hA9.out.kept (KeptBut.of_below hb (S := fun _ => False)) (fun h => h) (fun h => h)
          have hb10 := hb9.out.trans (hb.mono (by omega))
          have hown := hT10.chg
          have hownx := World.ownsRow.alloc hown (.cells #[.string (bs ch.fr), .string (bs ch.to), .pointer pb] 92)
          have hrd := reads3' wx 92 (.string (bs ch.fr)) (.string (bs ch.to)) (.pointer pb)
          have hpv : ∀ u ∈ [Value.string (bs ch.fr), .string (bs ch.to), .pointer pb], u.oneCell' = true := by
            intro u hu
            simp at hu
            rcases hu with rfl | rfl | rfl <;> rfl
          clear b3 y0 y1' y2' hX9 hown
          replace hpv := Lib.hid hpv
          replace hT10 := Lib.hid hT10
          replace hS10 := Lib.hid hS10
          replace hA10 := Lib.hid hA10
          replace hb10 := Lib.hid hb10
          refine wpTail_step ?_
          intro Q1 hQ1
          go_wp2_with fail
          refine hQ1 _ _ rfl (fun _ => ⟨⟨_, hb.alloc hbs _⟩, rfl⟩) ?_
          clear hQ1 Q1
          refine wpTail_step ?_
          intro Q1 hQ1
          have hcgl : (twS s i).chg.length < 1073741824 := by
            show (s.chg.take i).length < _
            rw [List.length_take]
            omega
          go_wp2_with (at_builtin; refine wpList_append_any _ rfl (.tmp 83) (.tmp 85) 87 rfl 0 92 i0 (.agg #[.string ⟨#[]⟩, .string ⟨#[]⟩, .pointer none]) 3 40 Tryz.underlying87 hi0 hiz0 hiz1 hiz2 rfl (by omega) Lt'.vC (twS s i).chg.length (chgV Lt'.blk (twS s i).chg) rfl hownx (wx.heap.size + 1) (some ⟨wx.heap.size, 0, none⟩) 1 1 [.string (bs ch.fr), .string (bs ch.to), .pointer pb] rfl hrd hpv.out (by unfold maxLen; omega) (by omega) (by simp) ?_; intro v2 w2b hown2 hgr2 hat2)
          refine hQ1 _ _ rfl (fun h => absurd h (by decide)) ?_
          clear hQ1 Q1
          rw [← hpb.out] at hown2
          obtain ⟨hT11, hk11, c5, f5, A7, n7, cp7, h7⟩ := hT10.out.rechg (c := ch) hown2 hgr2 (by simpa using hat2) hlv6.out
          subst h7
          have hz11 := hk11.size
          have hf6 : ∀ k, F6 k → w.heap.size ≤ k ∧ k ≠ gm ∧ k ≠ gm + 1 := fun k hk => by
            obtain ⟨a, _, b, c, _⟩ := hsep6.out k hk
            exact ⟨a, b, c⟩
          have hS11 := hS10.out.kept hk11 (fun k hk e => by have := hF k hk; have := (hf6 k e).1; omega)
          have hA11 := hA10.out.kept hk11 (fun e => (hf6 _ e).2.2 rfl) (fun e => (hf6 _ e).2.1 rfl)
          have hb11 := hb10.out.trans (hk11.below (fun k e => (hf6 k e).1) (by omega))
          have htk : s.chg.take i ++ [ch] = s.chg.take (i + 1) := by rw [List.take_add_one, hci.out]; rfl
          have hnm : doesC ((s.chg.take i).foldl doesC s.last) ch = (s.chg.take (i + 1)).foldl doesC s.last := by
            rw [← htk, List.foldl_append]
            rfl
          have hWn : Way w (w2b.setCell ⟨t, 3, none⟩ (.slice A7 n7 cp7)) Fd d L s t (gm + 1) gm (fun _ => False) (twS s (i + 1)) := by
            refine ⟨hS11, ⟨Fx F6 wx w2b, { Lt' with vC := .slice A7 n7 cp7 }, ?_, ⟨hA11.box, hA11.pm⟩, fun k hk => ?_⟩, hb11⟩
            · have h0 := hT11
              simp only [twS] at h0
              rw [htk, hnm] at h0
              exact h0
            · have hz2b : (w2b.setCell ⟨t, 3, none⟩ (.slice A7 n7 cp7)).heap.size = w2b.heap.size := by simp
              rcases hk with hk | hk
              · obtain ⟨a, b, c, e, _⟩ := hsep6.out k hk
                exact ⟨a, by omega, c, e, fun h => h⟩
              · exact ⟨by omega, by omega, by omega, by omega, fun h => h⟩
          replace hWn := Lib.hid hWn
          clear hT11 hS11 hA11 hb11 hk11 hown2 hgr2 hat2 hownx hrd
          replace htk := Lib.hid htk
          replace hnm := Lib.hid hnm
          refine wpTail_step ?_
          intro Q1 hQ1
          go_wp2_with (fail)
          refine hQ1 _ _ rfl (fun h => absurd h (by decide)) ?_
          clear hQ1 Q1
          refine wpTail_step ?_
          intro Q1 hQ1
          go_wp2_with (fail)
          refine hQ1 _ _ rfl (fun h => absurd h (by decide)) ?_
          clear hQ1 Q1
          refine wpTail_step ?_
          intro Q1 hQ1
          go_wp2_with (fail)
          refine hQ1 _ _ rfl (fun h => absurd h (by decide)) ?_
          clear hQ1 Q1
          refine wpTail_nil ?_
          refine hQ0 _ _ ?_
          clear hQ0 Q0
          go_wp2_with fail
          go_roundw
          case rel => exact ⟨i + 1, by omega, by rfl, hWn.out⟩
          case measure => first | omega | (simp only [intOf]; omega)
        · obtain rfl : i = n := by omega
          have hlt' : ¬ (i : Int) < i := by omega
          obtain ⟨Ft, Lt, hT, hA, hsep⟩ := hWr.ex
          rw [← hn2, twS_all g.dir.now] at hT
          have hbw := hWr.below
          have hTm := hT.more (F' := fun k => w.heap.size ≤ k ∧ k < wr.heap.size) (fun k hk => ⟨(hsep k hk).1, (hsep k hk).2.1⟩)
          replace hT := Lib.hid hT
          replace hA := Lib.hid hA
          replace hsep := Lib.hid hsep
          replace hWr := Lib.hid hWr
          replace hbw := Lib.hid hbw
          replace hTm := Lib.hid hTm
          go_wp2_with fail
          go_ret
          exact ⟨_, rfl, ⟨_, hTm.out⟩, hbw.out⟩
    · intro x b w7 cnt1 hg hlx hrg1 hlt hg1 hs1 hen
      have hk7 : KeptBut wr w7 (fun k => k = rr) := (KeptBut.refl wr (fun k => k = rr)).then_grown hg1 (fun k e => (Option.some.inj e).symm)
      have hW7 := hW.kept hk7 (fun k _ e => ⟨e, by omega, by omega, by omega⟩) hF
      rw [mvM_get] at hg
      obtain ⟨i, hgi, rfl⟩ := Option.map_eq_some_iff.1 hg
      have hmi := getM_mem hgi
      obtain ⟨h24, hil⟩ := g.ok.last _ hmi
      have hfi : s.files[i]? = some s.files[i] := List.getElem?_eq_getElem hil
      have hfl := (g.ok.file _ (List.getElem_mem hil)).2
      have hdi := hW7.src.live.2.1 _ hmi
      obtain ⟨Ft, Lt, hT7, hA7, hsep⟩ := hW7.ex
      have htgm : ¬ t = gm := (hsep t hT7.inF.1).2.2.1
      obtain ⟨I, hI⟩ : ∃ I : World → Prop, I = fun w' => ∃ Ft' Lt', DskAt w' Fd d L s ∧ DskAt w' Ft' t Lt' { room := s.room, fuse := s.fuse, off := s.off, files := s.files, names := [], last := s.last.filter fun q => !leftB left q.1, chg := [] } ∧ TwAt w' s.files.length L Lt' (gm + 1) gm ∧ (∀ k, Ft' k → w.heap.size ≤ k ∧ k < w'.heap.size ∧ k ≠ gm ∧ k ≠ gm + 1 ∧ ¬ (fun k => k = rr) k) ∧ Lt'.gL = Lt.gL ∧ KeptBut w7 w' (fun k => k = gm) := ⟨_, rfl⟩
      have hI0 : I w7.drew := by
        rw [hI]
        have hb7 := (Below.refl w7.heap.size w7).drew
        exact ⟨Ft, Lt, hW7.src.below hb7, hT7.below hb7, hA7.kept ((KeptBut.refl w7 (fun _ => False)).drew) (fun e => e) (fun e => e), fun k hk => hsep k hk, rfl, (KeptBut.refl w7 _).drew⟩
      haveI hne : Nonempty (ExtP I) := ⟨⟨w7.drew, hI0⟩⟩
      have hxt : ∀ x : ExtP I, x.w.cell? ⟨t, 2, none⟩ = some (.map (some Lt.gL)) := by
        intro x
        have hx := Eq.mp (congrFun hI x.w) x.inv
        obtain ⟨Ft', Lt', _, a, _, _, b, _⟩ := hx
        rw [← b]
        exact a.box.cell 2
      replace hI := Lib.hid hI
      replace hW7 := Lib.hid hW7
      replace hT7 := Lib.hid hT7
      replace hA7 := Lib.hid hA7
      replace hrg1 := Lib.hid hrg1
      replace hsep := Lib.hid hsep
      replace hW := Lib.hid hW
      replace hgi := Lib.hid hgi
      replace hlx := Lib.hid hlx
      replace hfi := Lib.hid hfi
      clear hrg hg
      go_wp2_with fail
      refine wp_hide (fun Q0 hQ0 => ?_)
      refine wp_region_line (fun w' => ∃ x : ExtP I, w' = x.w) [some false, some false, some false, some false, some false, some false, some false, none, none] 1 (by kernel_rfl) (by kernel_rfl) ⟨⟨_, hI0⟩, rfl⟩ ?_
      simp only [earlyL, tailL]
      repeat (first | ((with_reducible refine wpMix_p ?_); go_big_quiet_step (fail); refine wpQuiet_nil ?_) | ((with_reducible refine wpMix_e ?_); go_big_quiet_step ((first | fail)); refine wpQuiet_nil ?_))
      refine wpMix_nil ?_
      intro wx hwx
      replace hwx : I wx := by obtain ⟨x, rfl⟩ := hwx; exact x.inv
      obtain ⟨Ft1, Lt1, hD8, hT8, hA8, hs8, hl8, hk8⟩ := Eq.mp (congrFun hI.out wx) hwx
      have hcall := tw_some hD8 hT8 rfl hA8 hfi.out hfl hdi (fun k hk => by have := hF k hk; omega) (fun k hk => (hs8 k hk).2.2.1)
      have hzx := hk8.size
      have hrl := ranges_lt hrg1.out
      have hgl := hA8.box.lt
      replace hcall := Lib.hid hcall
      replace hD8 := Lib.hid hD8
      replace hT8 := Lib.hid hT8
      replace hA8 := Lib.hid hA8
      replace hs8 := Lib.hid hs8
      replace hk8 := Lib.hid hk8
      replace hl8 := Lib.hid hl8
      clear hxt
      refine wpTail_step ?_
      intro Q1 hQ1
      go_wp2_with fail
      refine hcall.out.mono ?_
      rintro e w9 ⟨Lt2, rfl, hO⟩
      have hsep9 : ∀ k, Fx Ft1 wx w9 k → w.heap.size ≤ k ∧ k < w9.heap.size ∧ k ≠ gm ∧ k ≠ gm + 1 ∧ ¬ (fun k => k = rr) k := by
        have hz9 := hO.kept.size
        rintro k (hk | hk)
        · obtain ⟨a, b, c⟩ := hs8.out k hk
          exact ⟨a, by omega, c⟩
        · have hbw := hW7.out.below.size
          exact ⟨by omega, by omega, by omega, by omega, by show ¬ k = rr; omega⟩
      have hl9 := hO.lay.2.1.trans hl8.out
      have hk9 := hk8.out.trans hO.kept (fun _ _ e => e)
      have hI9 : I w9 := Eq.mpr (congrFun hI.out w9) ⟨_, Lt2, hO.src, hO.dst, hO.tw, hsep9, hl9, hk9⟩
      have hm9 := hO.dst.last
      have hin9 := hsep9 _ hO.dst.inF.2.2.1
      rw [hl9] at hm9 hin9
      have hlen : (mvM Lt2.blk (s.last.filter fun q => !leftB left q.1)).length < maxLen := by
        rw [mvM_len]
        have h1 := List.length_filter_le (fun q : List UInt8 × Nat => !leftB left q.1) s.last
        have h2 := g.load
        unfold Dsk.load at h2
        unfold maxLen
        omega
      have hxs : x.size ≤ maxLen := by
        have : x.size = x.data.toList.length := rfl
        unfold maxLen
        omega
      have hput : putM x.data.toList i (s.last.filter fun q => !leftB left q.1) = s.last.filter fun q => !leftB (fun z => left z && !z.sameKey (.string x.data.toList)) q.1 := by
        have h1 := put_filter (v := i) (done := fun k => !leftB left k) (by show (!leftB left x.data.toList) = false; have : leftB left x.data.toList = true := hlx.out; rw [this]; rfl) s.last hri.out hmi
        refine h1.trans (List.filter_congr fun q _ => ?_)
        show (!leftB left q.1 || q.1 == x.data.toList) = !(leftB left q.1 && !(q.1 == x.data.toList))
        cases leftB left q.1 <;> simp
      replace hO := Lib.hid hO
      replace hsep9 := Lib.hid hsep9
      replace hin9 := Lib.hid hin9
      replace hm9 := Lib.hid hm9
      replace hlen := Lib.hid hlen
      replace hk9 := Lib.hid hk9
      replace hl9 := Lib.hid hl9
      replace hput := Lib.hid hput
      replace hxs := Lib.hid hxs
      go_wp2_with fail
      refine hQ1 _ _ rfl (fun _ => ⟨⟨_, hI9⟩, rfl⟩) ?_
      clear hQ1 Q1 hI9 hwx hI hne
      refine wpTail_step ?_
      intro Q1 hQ1
      go_wp2_with (at_mapUpdate; refine wpList_nm_store _ rfl _ _ _ 86 rfl 9 90 Tryz.underlying9 Tryz.underlying86 Lt.gL _ rfl hm9.out hlen.out x (Lt2.blk i) rfl rfl hxs.out ?_; intro w10 hm10 ht10)
      refine hQ1 _ _ rfl (fun h => absurd h (by decide)) ?_
      clear hQ1 Q1
      refine wpTail_nil ?_
      refine hQ0 _ _ ?_
      clear hQ0 Q0
      rw [← mvM_put, hput.out] at hm10
      have hk10 : KeptBut w9 w10 (fun k => k = Lt.gL) := (KeptBut.refl w9 (fun k => k = Lt.gL)).then_grown ht10.grown (fun k e => (Option.some.inj e).symm)
      have hT10 := hO.out.dst.relasts (m := s.last.filter fun q => !leftB (fun z => left z && !z.sameKey (.string x.data.toList)) q.1) (hl9.out.symm ▸ hk10) (hl9.out.symm ▸ hm10) (fun p hp => by
        have hlv := hO.out.dst.live.2.1
        by_cases e : p ∈ s.last.filter fun q => !leftB left q.1
        · exact hlv p e
        · rw [← hput.out] at hp
          rcases (putM_mem _ _ _ _).1 hp with h1 | h1
          · rw [h1]
            exact hO.out.live
          · exact absurd h1.1 e)
      have hz10 := hk10.size
      have hW10 : Way w w10 Fd d L s t (gm + 1) gm (fun k => k = rr) { room := s.room, fuse := s.fuse, off := s.off, files := s.files, names := [], last := s.last.filter fun q => !leftB (fun z => left z && !z.sameKey (.string x.data.toList)) q.1, chg := [] } := by
        refine ⟨hO.out.src.kept hk10 (fun k hk e => by have := hF k hk; have := hin9.out.1; omega), ⟨_, Lt2, hT10, hO.out.tw.kept hk10 (fun e => hin9.out.2.2.2.1 e.symm) (fun e => hin9.out.2.2.1 e.symm), fun k hk => ?_⟩, ?_⟩
        · obtain ⟨a, b, c⟩ := hsep9.out k hk
          exact ⟨a, by omega, c⟩
        · exact (hW7.out.below.trans (hk9.out.below (fun k e => by omega) hW7.out.below.size)).trans (hk10.below (fun k e => by have := hin9.out.1; omega) (by have := hk9.out.size; have := hW7.out.below.size; omega))
      have hgLl : L.gL < w.heap.size := hF _ (hW7.out.src.inF.2.2.1)
      have hrg10 := ranges_block hrg1.out (((hk9.out.block L.gL (by omega) (by omega)).symm.trans (hk10.block L.gL (by have := hk9.out.size; omega) (by have := hin9.out.1; omega)).symm).symm) (((hk9.out.block rr (by omega) (by omega)).symm.trans (hk10.block rr (by have := hk9.out.size; omega) (by have := hin9.out.2.2.2.2; omega)).symm).symm)
      go_wp2_with fail
      go_roundw
      case rel => exact ⟨_, _, hrg10, hW10⟩
      case measure => rw [hrg10.left_eq, hle]; exact hlt
theorem OwnB.atSome {w : World} {A : Option Addr} {n cap : Nat} {l : List UInt8} (h : OwnB w 0 (.slice A n cap) l) {i : Nat} (hi : i < l.length) : ∃ g, A = some ⟨g, 0, none⟩ ∧ g < w.heap.size ∧ w.cell? ⟨g, i, none⟩ = some (.int .u8 (l[i].toNat : Nat)) := by
  rcases h.2 with ⟨e, h0⟩ | ⟨g, cap', cur, e, _⟩
  · omega
  · injection e with e1 e2 e3
    subst e1
    have := (h.lt g rfl).2
    exact ⟨g, rfl, this, (h.cellAt hi).1⟩
set_option maxRecDepth 100000 in
set_option maxHeartbeats 2000000 in
theorem equalB_any {w : World} {v1 v2 : Value} {l : List UInt8} (h1 : OwnB w 0 v1 l) (h2 : OwnB w 0 v2 l) (hl : l.length ≤ 1048576) :
    Calls Tryz.prog 123 #[v1, v2] w fun e w' => e = .returned (.bool true) ∧ Below w.heap.size w w' := by
  obtain ⟨A1, c1, rfl⟩ := h1.form
  obtain ⟨A2, c2, rfl⟩ := h2.form
  replace h1 := Lib.hid h1
  replace h2 := Lib.hid h2
  go_enter Tryz.func123, Tryz.ntmps123
  go_wp2_with fail
  go_loopw [13] (fun v wr => ∃ i : Nat, i ≤ l.length ∧ v = .int .i64 i ∧ Below w.heap.size w wr) (fun v _ => l.length - (intOf v).toNat)
  case atStart => exact ⟨0, Nat.zero_le _, rfl, Below.refl _ _⟩
  case round =>
    obtain ⟨i, hi, rfl, hbr⟩ := hrel
    by_cases hlt : i < l.length
    · have hlt' : (i : Int) < l.length := by omega
      obtain ⟨g1, rfl, hg1, x1⟩ := h1.out.atSome hlt
      obtain ⟨g2, rfl, hg2, x2⟩ := h2.out.atSome hlt
      generalize l[i].toNat = c at *
      have q1 := (hbr.cell (p := ⟨g1, i, none⟩) hg1).trans x1
      have q2 := (hbr.cell (p := ⟨g2, i, none⟩) hg2).trans x2
      have hz := hbr.size
      have hg1' : g1 < wr.heap.size := by omega
      have hg2' : g2 < wr.heap.size := by omega
      replace hbr := Lib.hid hbr
      clear x1 x2
      go_wp2_with fail
      have hxc := @Ext.cell
      have hxf := @Ext.frozen
      refine wp_hide (fun Q0 hQ0 => ?_)
      refine wp_region_line (fun w' => ∃ x : Ext _, w' = x.w) [some false, some false, some false, some false, some false, some false, some false, some false, some false] 0 (by kernel_rfl) (by kernel_rfl) ⟨⟨_, (Below.refl _ _).drew⟩, rfl⟩ ?_
      simp only [earlyL, tailL]
      repeat (first | ((with_reducible refine wpMix_p ?_); go_big_quiet_step (fail); refine wpQuiet_nil ?_) | ((with_reducible refine wpMix_e ?_); go_big_quiet_step ((first | fail)); refine wpQuiet_nil ?_))
      refine wpMix_nil ?_
      clear hxc hxf
      intro wx hwx
      obtain ⟨x, hx⟩ := hwx
      have hb := x.below
      rw [← hx] at hb
      clear hx x
      have hbx := hbr.out.trans (hb.mono hz)
      refine wpTail_nil ?_
      refine hQ0 _ _ ?_
      clear hQ0 Q0
      go_wp2_with fail
      go_roundw
      case rel => exact ⟨i + 1, by omega, by rfl, hbx⟩
      case measure => first | omega | (simp only [intOf]; omega)
    · obtain rfl : i = l.length := by omega
      have hlt' : ¬ ((l.length : Nat) : Int) < l.length := by omega
      replace hbr := Lib.hid hbr
      go_wp2_with fail
      go_ret
      exact ⟨rfl, hbr.out⟩
set_option maxRecDepth 100000 in
set_option maxHeartbeats 2000000 in
theorem alike_nil (w : World) : Calls Tryz.prog 80 #[.pointer none, .pointer none] w fun e w' => e = .returned (.bool true) ∧ Below w.heap.size w w' := by
  go_enter Tryz.func80, Tryz.ntmps80
  go_wp2_with fail
  go_ret
  exact ⟨rfl, Below.refl _ _⟩
set_option maxRecDepth 100000 in
set_option maxHeartbeats 2000000 in
theorem alike_some {w : World} {b1 b2 : Nat} {v1 v2 : Value} {f : Fil} (hb1 : Blk w b1 99 #[v1, .int .i64 f.k]) (hb2 : Blk w b2 99 #[v2, .int .i64 f.k]) (h1 : OwnB w 0 v1 f.d) (h2 : OwnB w 0 v2 f.d) (hl : f.d.length ≤ 1048576) :
    Calls Tryz.prog 80 #[.pointer (some ⟨b1, 0, none⟩), .pointer (some ⟨b2, 0, none⟩)] w fun e w' => e = .returned (.bool true) ∧ Below w.heap.size w w' := by
  have x0 := hb1.cell 0
  have x1 := hb1.cell 1
  have y0 := hb2.cell 0
  have y1 := hb2.cell 1
  have l1 := hb1.lt
  have l2 := hb2.lt
  have hq : ∀ W, Below w.heap.size w W → Calls Tryz.prog 123 #[v1, v2] W fun e w' => e = .returned (.bool true) ∧ Below W.heap.size W w' := fun W hW =>
    equalB_any (own_kept h1 (KeptBut.of_below hW (S := fun _ => False)) (fun _ _ h => h)) (own_kept h2 (KeptBut.of_below hW (S := fun _ => False)) (fun _ _ h => h)) hl
  obtain ⟨A1, c1, rfl⟩ := h1.form
  obtain ⟨A2, c2, rfl⟩ := h2.form
  generalize f.d.length = n at *
  replace h1 := Lib.hid h1
  replace h2 := Lib.hid h2
  replace hq := Lib.hid hq
  replace hb1 := Lib.hid hb1
  replace hb2 := Lib.hid hb2
  go_enter Tryz.func80, Tryz.ntmps80
  go_wp2_with fail
  have hxc := @Ext.cell
  have hxf := @Ext.frozen
  refine wp_hide (fun Q0 hQ0 => ?_)
  refine wp_region_line (fun w' => ∃ x : Ext _, w' = x.w) [some false, some false, some false, some false, some false, some false, some false, some false, some false, some false, some false, some false, some false, some false, some false, some false, some false, some false, some false, some false, some false] 0 (by kernel_rfl) (by kernel_rfl) ⟨⟨_, (Below.refl _ _).drew⟩, rfl⟩ ?_
  simp only [earlyL, tailL]
  repeat (first | ((with_reducible refine wpMix_p ?_); go_big_quiet_step (fail); refine wpQuiet_nil ?_) | ((with_reducible refine wpMix_e ?_); go_big_quiet_step ((first | (go_at_call 123; exact Calls.ext (hq.out _ (Ext.below _))))); refine wpQuiet_nil ?_))
  refine wpMix_nil ?_
  clear hxc hxf
  intro wx hwx
  obtain ⟨x, hx⟩ := hwx
  have hb := x.below
  rw [← hx] at hb
  clear hx x
  refine wpTail_nil ?_
  refine hQ0 _ _ ?_
  clear hQ0 Q0
  go_wp2_with fail
  go_ret
  exact ⟨rfl, hb⟩
section
variable {w : World} {F1 F2 : Nat → Prop} {d1 d2 : Nat} {L1 L2 : Lay} {s1 s2 : Dsk}
theorem alike_opt (hD1 : DskAt w F1 d1 L1 s1) (hD2 : DskAt w F2 d2 L2 s2) (o : Option Nat) (ho : ∀ i, o = some i → ¬ L1.dead i ∧ ¬ L2.dead i ∧ ∃ f, s1.files[i]? = some f ∧ s2.files[i]? = some f ∧ f.d.length ≤ 1048576) :
    Calls Tryz.prog 80 #[ptrV (o.map L1.blk), ptrV (o.map L2.blk)] w fun e w' => e = .returned (.bool true) ∧ Below w.heap.size w w' := by
  cases o with
  | none => exact alike_nil w
  | some i =>
    obtain ⟨e1, e2, f, f1, f2, hl⟩ := ho i rfl
    obtain ⟨a1, o1⟩ := hD1.file i f f1 e1
    obtain ⟨a2, o2⟩ := hD2.file i f f2 e2
    exact alike_some a1 a2 o1 o2 hl
set_option maxRecDepth 100000 in
set_option maxHeartbeats 2000000 in
theorem Same1_any (hD1 : DskAt w F1 d1 L1 s1) (hD2 : DskAt w F2 d2 L2 s2) (c : Chg) (ho : ∀ i, c.f = some i → ¬ L1.dead i ∧ ¬ L2.dead i ∧ ∃ f, s1.files[i]? = some f ∧ s2.files[i]? = some f ∧ f.d.length ≤ 1048576) :
    Calls Tryz.prog 82 #[chgVal L1.blk c, chgVal L2.blk c] w fun e w' => e = .returned (.bool true) ∧ Below w.heap.size w w' := by
  obtain ⟨p1, hp1⟩ := ptrV_form (c.f.map L1.blk)
  obtain ⟨p2, hp2⟩ := ptrV_form (c.f.map L2.blk)
  have hq : ∀ W, Below w.heap.size w W → Calls Tryz.prog 80 #[ptrV (c.f.map L1.blk), ptrV (c.f.map L2.blk)] W fun e w' => e = .returned (.bool true) ∧ Below W.heap.size W w' := fun W hW => alike_opt (hD1.below hW) (hD2.below hW) c.f ho
  have hB : Below w.heap.size w ((w.alloc (.cells #[.string (bs c.fr), .string (bs c.to), .pointer p1] 92)).alloc (.cells #[.string (bs c.fr), .string (bs c.to), .pointer p2] 92)) := ((Below.refl _ _).alloc (Nat.le_refl _) _).alloc (by simp) _
  unfold chgVal
  rw [hp1, hp2] at *
  have hq2 := hq _ hB
  clear hq
  replace hq2 := Lib.hid hq2
  replace ho := Lib.hid ho
  replace hp1 := Lib.hid hp1
  replace hp2 := Lib.hid hp2
  replace hD1 := Lib.hid hD1
  replace hD2 := Lib.hid hD2
  replace hB := Lib.hid hB
  go_enter Tryz.func82, Tryz.ntmps82
  go_wp2_with (refine hq2.out.mono ?_; rintro e w' ⟨rfl, hb⟩)
  go_ret
  exact ⟨rfl, hB.out.trans (hb.mono hB.out.size)⟩
end
/-- Two disks' plain states, alike but for files that nobody names. -/
structure Dsk.Like (s1 s2 : Dsk) (D1 D2 : Nat → Prop) : Prop where
  room : s1.room = s2.room
  fuse : s1.fuse = s2.fuse
  off : s1.off = s2.off
  last : s1.last = s2.last
  chg : s1.chg = s2.chg
  file : ∀ i, i < s2.files.length → ¬ D1 i → ¬ D2 i → ∃ f, s1.files[i]? = some f ∧ s2.files[i]? = some f ∧ f.d.length ≤ 1048576
section
variable {w : World} {F1 F2 : Nat → Prop} {d1 d2 : Nat} {L1 L2 : Lay} {s1 s2 : Dsk}
set_option maxRecDepth 100000 in
set_option maxHeartbeats 4000000 in
theorem mapsEq_any (hD1 : DskAt w F1 d1 L1 s1) (hD2 : DskAt w F2 d2 L2 s2) (hs : s1.Like s2 L1.dead L2.dead) (ok : s2.Ok) (hm : s2.last.length ≤ 536870912) :
    Calls Tryz.prog 79 #[.map (some L1.gL), .map (some L2.gL), .func (.func 80) #[] #[]] w fun e w' => e = .returned (.bool true) ∧ Below w.heap.size w w' := by
  have hA1 := hD1.last
  have hA2 := hD2.last
  rw [hs.last] at hA1
  have n1 := World.ownsMap.len hA1 Tryz.underlying86 3
  have n2 := World.ownsMap.len hA2 Tryz.underlying86 3
  rw [nmD_size, mvM_len] at n1 n2
  have lA1 := hA1.lt
  replace hs := Lib.hid hs
  go_enter Tryz.func79, Tryz.ntmps79
  go_wp2_with (at_range; refine wpList_nm_range _ rfl _ 86 rfl 9 90 Tryz.underlying9 Tryz.underlying86 L1.gL (mvM L1.blk s2.last) rfl hA1 ?_; intro w0 hrg0 hg0 hs0)
  have hb0 : Below w.heap.size w w0 := ⟨hg0.os, hg0.tape, hg0.output, hg0.size, fun k hk => hg0.block k hk (by simp)⟩
  replace hA1 := Lib.hid hA1
  replace hA2 := Lib.hid hA2
  replace hD1 := Lib.hid hD1
  replace hD2 := Lib.hid hD2
  clear n1 n2
  go_frame
  go_loopw [18] (fun _ wr => ∃ left cnt, wr.ranges Tryz.prog 9 ptrR L1.gL w.heap.size (mvM L1.blk s2.last).length (nmD (mvM L1.blk s2.last)) left cnt ∧ Below w.heap.size w wr) (fun _ wr => wr.rangeLeft L1.gL w.heap.size)
  case atStart => exact ⟨_, _, hrg0, hb0⟩
  case round =>
    obtain ⟨left, cnt, hrg, hbr⟩ := hrel
    have hle := hrg.left_eq
    replace hrg := Lib.hid hrg
    replace hle := Lib.hid hle
    replace hrg0 := Lib.hid hrg0
    replace hb0 := Lib.hid hb0
    go_wp2_with (at_next; refine wpList_nm_next _ rfl _ rfl 9 Tryz.underlying9 L1.gL w.heap.size (mvM L1.blk s2.last) left cnt rfl hrg.out ?_ ?_)
    · intro hc0 hl0
      clear hl0 hc0
      go_wp2_with fail
      go_ret
      exact ⟨rfl, hbr⟩
    · intro x b w1 cnt1 hg hl hrg1 hlt hg1 hs1 hen
      rw [mvM_get] at hg
      obtain ⟨i, hgi, rfl⟩ := Option.map_eq_some_iff.1 hg
      have hmi := getM_mem hgi
      obtain ⟨h24, hil⟩ := ok.last _ hmi
      have hb1 : Below w.heap.size w w1 := hbr.trans ⟨hg1.os, hg1.tape, hg1.output, hg1.size, fun k hk => hg1.block k (by have := hbr.size; omega) (by simp; omega)⟩
      have hE1 := hD1.out.below hb1
      have hE2 := hD2.out.below hb1
      have hxs : x.size ≤ maxLen := by
        have : x.size = x.data.toList.length := rfl
        have h24' : x.data.toList.length ≤ 24 := h24
        unfold maxLen
        omega
      have hlk := hE2.last.look_ok (t := 86) (e := 90) Tryz.underlying9 Tryz.underlying86 (zero_file w1) hxs
      rw [mvM_get, hgi] at hlk
      simp only [Option.map_some, lookV] at hlk
      have d1 : ¬ L1.dead i := hE1.live.2.1 _ (hs.out.last ▸ hmi)
      have d2 : ¬ L2.dead i := hE2.live.2.1 _ hmi
      obtain ⟨f, f1, f2, f3⟩ := hs.out.file i hil d1 d2
      have hcall := alike_opt hE1 hE2 (some i) (fun j hj => by injection hj with hj; subst hj; exact ⟨d1, d2, f, f1, f2, f3⟩)
      simp only [Option.map_some, ptrV] at hcall
      replace hcall := Lib.hid hcall
      replace hrg1 := Lib.hid hrg1
      replace hgi := Lib.hid hgi
      replace hg := Lib.hid hg
      replace hl := Lib.hid hl
      replace hmi := Lib.hid hmi
      replace hE1 := Lib.hid hE1
      replace hE2 := Lib.hid hE2
      replace f1 := Lib.hid f1
      replace f2 := Lib.hid f2
      go_wp2_with fail
      refine hcall.out.mono ?_
      rintro e w2 ⟨rfl, hb2⟩
      have hbn := hb1.trans (hb2.mono hb1.size)
      have hrl := ranges_lt hrg1.out
      have hgl := lA1
      have hrg2 := ranges_block hrg1.out (hb2.block L1.gL (by have := hb1.size; omega)) (hb2.block w.heap.size hrl)
      replace hrg2 := Lib.hid hrg2
      replace hbn := Lib.hid hbn
      go_wp2_with fail
      go_roundw
      case rel => exact ⟨_, _, hrg2.out, hbn.out⟩
      case measure => rw [hrg2.out.left_eq, hle.out]; exact hlt
set_option maxRecDepth 100000 in
set_option maxHeartbeats 4000000 in
theorem slicesEq_any (hD1 : DskAt w F1 d1 L1 s1) (hD2 : DskAt w F2 d2 L2 s2) (hs : s1.Like s2 L1.dead L2.dead) (ok : s2.Ok) (hm : s2.chg.length ≤ 536870912) :
    Calls Tryz.prog 81 #[L1.vC, L2.vC, .func (.func 82) #[] #[]] w fun e w' => e = .returned (.bool true) ∧ Below w.heap.size w w' := by
  obtain ⟨A1, c1, hv1, _, _, ha1⟩ := chg_form hD1
  obtain ⟨A2, c2, hv2, _, _, ha2⟩ := chg_form hD2
  rw [hv1, hv2]
  rw [hs.chg] at ha1 ⊢
  generalize hn : s2.chg.length = n at *
  replace hs := Lib.hid hs
  replace hD1 := Lib.hid hD1
  replace hD2 := Lib.hid hD2
  replace ha1 := Lib.hid ha1
  replace ha2 := Lib.hid ha2
  replace hv1 := Lib.hid hv1
  replace hv2 := Lib.hid hv2
  go_enter Tryz.func81, Tryz.ntmps81
  go_wp2_with fail
  go_loopw [17] (fun v wr => ∃ i : Nat, i ≤ n ∧ v = .int .i64 i ∧ Below w.heap.size w wr) (fun v _ => n - (intOf v).toNat)
  case atStart => exact ⟨0, Nat.zero_le _, rfl, Below.refl _ _⟩
  case round =>
    obtain ⟨i, hi, rfl, hbr⟩ := hrel
    by_cases hlt : i < n
    · have hlt' : (i : Int) < n := by omega
      have hci : s2.chg[i]? = some s2.chg[i] := List.getElem?_eq_getElem (by omega)
      have hmem := List.getElem_mem (show i < s2.chg.length by omega)
      obtain ⟨g1, e1, hown1, hgl1, x0, x1, x2⟩ := ha1.out i _ hci
      obtain ⟨g2, e2, hown2, hgl2, y0, y1, y2⟩ := ha2.out i _ hci
      subst e1 e2
      obtain ⟨z1, z2, z3, z4⟩ := ok.chg _ hmem
      generalize s2.chg[i] = c at *
      have hB1 : Below w.heap.size w (wr.alloc (.cells #[.string (bs c.fr), .string (bs c.to), ptrV (c.f.map L1.blk)] 92)) := hbr.alloc hbr.size _
      have hB : Below w.heap.size w ((wr.alloc (.cells #[.string (bs c.fr), .string (bs c.to), ptrV (c.f.map L1.blk)] 92)).alloc (.cells #[.string (bs c.fr), .string (bs c.to), ptrV (c.f.map L2.blk)] 92)) := hB1.alloc hB1.size _
      have hcall := Same1_any (hD1.out.below hB) (hD2.out.below hB) c (fun j hj => by
        have d1 := hD1.out.live.2.2.1 c (hs.out.chg ▸ hmem) j hj
        have d2 := hD2.out.live.2.2.1 c hmem j hj
        exact ⟨d1, d2, hs.out.file j (z3 j hj) d1 d2⟩)
      unfold chgVal at hcall
      obtain ⟨p1, hp1⟩ := ptrV_form (c.f.map L1.blk)
      obtain ⟨p2, hp2⟩ := ptrV_form (c.f.map L2.blk)
      rw [hp1, hp2] at hcall hB
      rw [hp1] at x2 hB1
      rw [hp2] at y2
      have q0 := (hbr.cell (p := ⟨g1, i * 3, none⟩) hgl1).trans x0
      have q1 := (hbr.cell (p := ⟨g1, i * 3 + 1, none⟩) hgl1).trans x1
      have q2 := (hbr.cell (p := ⟨g1, i * 3 + 2, none⟩) hgl1).trans x2
      have r0 := (hB1.cell (p := ⟨g2, i * 3, none⟩) hgl2).trans y0
      have r1 := (hB1.cell (p := ⟨g2, i * 3 + 1, none⟩) hgl2).trans y1
      have r2 := (hB1.cell (p := ⟨g2, i * 3 + 2, none⟩) hgl2).trans y2
      have hz := hbr.size
      have hg1' : g1 < wr.heap.size := by omega
      have hg2' : g2 < wr.heap.size := by omega
      replace hbr := Lib.hid hbr
      replace hB1 := Lib.hid hB1
      replace hB := Lib.hid hB
      replace hcall := Lib.hid hcall
      replace hp1 := Lib.hid hp1
      replace hp2 := Lib.hid hp2
      replace hci := Lib.hid hci
      replace hmem := Lib.hid hmem
      clear x0 x1 x2 y0 y1 y2 hown1 hown2
      go_wp2_with fail
      refine hcall.out.mono ?_
      rintro e w2 ⟨rfl, hb2⟩
      have hbx := hB.out.trans (hb2.mono hB.out.size)
      replace hbx := Lib.hid hbx
      go_wp2_with fail
      go_roundw
      case rel => exact ⟨i + 1, by omega, by rfl, hbx.out⟩
      case measure => first | omega | (simp only [intOf]; omega)
    · obtain rfl : i = n := by omega
      have hlt' : ¬ (i : Int) < i := by omega
      replace hbr := Lib.hid hbr
      go_wp2_with fail
      go_ret
      exact ⟨rfl, hbr.out⟩
end
section
variable {w : World} {F1 F2 : Nat → Prop} {d1 d2 : Nat} {L1 L2 : Lay} {s1 s2 : Dsk}
set_option maxRecDepth 100000 in
set_option maxHeartbeats 4000000 in
theorem Same_any (hD1 : DskAt w F1 d1 L1 s1) (hD2 : DskAt w F2 d2 L2 s2) (hs : s1.Like s2 L1.dead L2.dead) (ok : s2.Ok) (hm : s2.load ≤ 536870912) :
    Calls Tryz.prog 34 #[.pointer (some ⟨d1, 0, none⟩), .pointer (some ⟨d2, 0, none⟩)] w fun e w' => e = .returned (.bool true) ∧ Below w.heap.size w w' := by
  have hn1 := Lib.hid (none_any hD1)
  have hn2 := Lib.hid (none_any hD2)
  unfold Dsk.load at hm
  have hc1 : ∀ W, Below w.heap.size w W → Calls Tryz.prog 79 #[.map (some L1.gL), .map (some L2.gL), .func (.func 80) #[] #[]] W fun e w' => e = .returned (.bool true) ∧ Below W.heap.size W w' := fun W hW => mapsEq_any (hD1.below hW) (hD2.below hW) hs ok (by omega)
  have hc2 : ∀ W, Below w.heap.size w W → Calls Tryz.prog 81 #[L1.vC, L2.vC, .func (.func 82) #[] #[]] W fun e w' => e = .returned (.bool true) ∧ Below W.heap.size W w' := fun W hW => slicesEq_any (hD1.below hW) (hD2.below hW) hs ok (by omega)
  have a0 := hD1.box.cell 0
  have a2 := hD1.box.cell 2
  have a3 := hD1.box.cell 3
  have a4 := hD1.box.cell 4
  have a5 := hD1.box.cell 5
  have b0 := hD2.box.cell 0
  have b2 := hD2.box.cell 2
  have b3 := hD2.box.cell 3
  have b4 := hD2.box.cell 4
  have b5 := hD2.box.cell 5
  obtain ⟨A1, k1, hv1, _⟩ := chg_form hD1
  obtain ⟨A2, k2, hv2, _⟩ := chg_form hD2
  rw [hs.chg] at hv1
  rw [hv1] at hc2 a3
  rw [hv2] at hc2 b3
  rw [hs.room] at a0
  rw [hs.off] at a4
  rw [hs.fuse] at a5
  have l1 := hD1.lt
  have l2 := hD2.lt
  generalize s2.chg.length = n at *
  replace hv1 := Lib.hid hv1
  replace hv2 := Lib.hid hv2
  replace hs := Lib.hid hs
  replace hD1 := Lib.hid hD1
  replace hD2 := Lib.hid hD2
  replace hc1 := Lib.hid hc1
  replace hc2 := Lib.hid hc2
  go_enter Tryz.func34, Tryz.ntmps34
  go_wp2_with fail
  refine hn1.out.mono ?_
  rintro e w' ⟨rfl, rfl⟩
  go_wp2_with fail
  refine hn2.out.mono ?_
  rintro e w' ⟨rfl, rfl⟩
  go_wp2_with fail
  have hxc := @Ext.cell
  have hxf := @Ext.frozen
  refine wp_hide (fun Q0 hQ0 => ?_)
  refine wp_region_line (fun w' => ∃ x : Ext _, w' = x.w) [some false, some false, some false, some false, some false, some false, some false, some false, some false, some false, some false, some false, some false, some false, some false, some false, some false, some false, some false, some false, some false, some false, some false, some false, some false, some false, some false, some false, some false, some false, some false, some false, some false, some false, some false, some false, some false, some false, some false, some false, some false, some false, some false, some false, some false, some false, some false, some false, some false, some false, some false, some false, some false, some false] 0 (by kernel_rfl) (by kernel_rfl) ⟨⟨_, (Below.refl _ _).drew⟩, rfl⟩ ?_
  simp only [earlyL, tailL]
  repeat (first | ((with_reducible refine wpMix_p ?_); go_big_quiet_step (fail); refine wpQuiet_nil ?_) | ((with_reducible refine wpMix_e ?_); go_big_quiet_step ((first | (go_at_call 79; exact Calls.ext (hc1.out _ (Ext.below _))) | (go_at_call 81; exact Calls.ext (hc2.out _ (Ext.below _))))); refine wpQuiet_nil ?_))
  refine wpMix_nil ?_
  clear hxc hxf
  intro wx hwx
  obtain ⟨x, hx⟩ := hwx
  have hb := x.below
  rw [← hx] at hb
  clear hx x
  refine wpTail_nil ?_
  refine hQ0 _ _ ?_
  clear hQ0 Q0
  go_wp2_with fail
  go_ret
  exact ⟨rfl, hb⟩
end
theorem Dsk.Like.refl {s : Dsk} (ok : s.Ok) (D1 D2 : Nat → Prop) : s.Like s D1 D2 :=
  ⟨rfl, rfl, rfl, rfl, rfl, fun i hi _ _ => ⟨_, List.getElem?_eq_getElem hi, List.getElem?_eq_getElem hi, (ok.file _ (List.getElem_mem hi)).2⟩⟩
/-- A twin that lies in the blocks from B to C. -/
def TwinAt (w : World) (B C t : Nat) (s : Dsk) : Prop := ∃ L, DskAt w (fun k => B ≤ k ∧ k < C) t L s
theorem TwinAt.keeps {Y : Nat → Prop} {w w' : World} {B C t : Nat} {s : Dsk} (h : TwinAt w B C t s) (hk : Keeps Y w w') (hY : ∀ k, B ≤ k → k < C → Y k) : TwinAt w' B C t s := by
  obtain ⟨L, hL⟩ := h
  have hK : KeptBut w w' (fun k => ¬ (B ≤ k ∧ k < C)) := ⟨hk.os, hk.tape, hk.output, hk.size, fun k _ hs => by
    have hs' := Classical.not_not.1 hs
    exact hk.block k (hY k hs'.1 hs'.2)⟩
  exact ⟨L, hL.kept hK (fun k hf hs => hs hf)⟩
theorem Twin_dx {X : Nat → Prop} {w : World} {d : Nat} {s : Dsk} {m : Nat} (h : Dx X w d s) (g : s.Good m) (hm : m ≤ 536870912) :
    Calls Tryz.prog 33 #[.pointer (some ⟨d, 0, none⟩)] w fun e w' => ∃ t, e = .returned (.pointer (some ⟨t, 0, none⟩)) ∧ TwinAt w' w.heap.size w'.heap.size t s ∧ Dx (fun k => X k ∨ (w.heap.size ≤ k ∧ k < w'.heap.size)) w' d s ∧ Below w.heap.size w w' := by
  obtain ⟨F, L, hL, hF⟩ := h
  refine (Twin_any hL g hm (fun k hk => (hF k hk).1)).mono ?_
  rintro e w' ⟨t, L', rfl, hT, hb⟩
  exact ⟨t, rfl, ⟨L', hT⟩, Dx.grow ⟨F, L, hL, hF⟩ hb (fun k q => q.imp id (fun q => q.1)), hb⟩
theorem Same_dx {X : Nat → Prop} {w : World} {d B C t : Nat} {s : Dsk} {m : Nat} (h : Dx X w d s) (ht : TwinAt w B C t s) (g : s.Good m) (hm : m ≤ 536870912) :
    Calls Tryz.prog 34 #[.pointer (some ⟨d, 0, none⟩), .pointer (some ⟨t, 0, none⟩)] w fun e w' => e = .returned (.bool true) ∧ Below w.heap.size w w' := by
  obtain ⟨F, L, hL, hF⟩ := h
  obtain ⟨L', hT⟩ := ht
  exact Same_any hL hT (.refl g.ok _ _) g.ok (by have := g.load; omega)
theorem RmOk.more {N C : Nat} {w : World} {r : RM} (h : RmOk N w r) (hC : N ≤ C) : RmOk C w r :=
  ⟨h.bats.more hC, fun x hx => ⟨by
    obtain ⟨A, cap, e, hr⟩ := (h.each x hx).at_
    exact ⟨A, cap, e, Reads.more hr hC⟩, (h.each x hx).seq⟩, h.news.more hC, ⟨h.cr.keep.more hC, h.cr.spoil.more hC, h.cr.kb, h.cr.pb⟩, h.fuse⟩
/-- Between two rounds. -/
structure LawJ (N : Nat) (w wr : World) (d : Nat) (s : Dsk) (i : Nat) : Prop where
  below : Below N w wr
  dx : Dx (fun k => k < N) wr d s
  bet : ∃ l M, BetW s l M ∧ M ≤ 21 * i ∧ (contW l).length ≤ 21 * i
  good : s.Good (101 * i)
  fuse : s.fuse = 0
theorem LawJ.start {w w1 : World} {d N : Nat} {room : Int} (hD : Dx (fun k => k < N) w1 d (Dsk.new room)) (hb : Below N w w1) : LawJ N w w1 d (Dsk.new room) 0 :=
  ⟨hb, hD, ⟨[], 0, BetW.new room, Nat.le_refl _, Nat.le_refl _⟩, .new room, rfl⟩
/-- A round's own part. -/
theorem LawJ.goes {N : Nat} {w wr : World} {d : Nat} {s : Dsk} {i : Nat} (h : LawJ N w wr d s i) (hG : Glo w) (h7 : 7 ≤ N) (hN : N ≤ w.heap.size) (hi : i < 8) {r : RM} (hr : RmOk N w r) (hs : RSmall r) :
    Calls Tryz.prog 11 #[.pointer (some ⟨d, 0, none⟩), .agg #[.slice r.BA r.bats.length r.bc, .slice r.NA r.news.length r.nc, .int .i64 r.fuse, .int .i64 r.cr.names, .slice r.KA r.cr.keep.length r.kc, .slice r.PA r.cr.spoil.length r.pc]] wr fun e w' => ∃ X tv uv, e = .returned (.tuple #[tv, uv]) ∧ Dx X w' d (goesW s r.fuse r.plain.rows).1 ∧ (∀ k, X k → k < w'.heap.size) ∧ (∀ k, k < N → X k) ∧ Below N w w' ∧ (goesW s r.fuse r.plain.rows).1.Good (101 * i + 100) := by
  obtain ⟨l0, M, hB, hM, hcl⟩ := h.bet
  have hsz := h.below.size
  refine (goes_any (N0 := N) (fun k q => by omega) (fun k q => q) h7 (by omega) h.dx (hG.below h.below h7) h.good (by omega) (hr.below h.below (Nat.le_refl _)) hs.2.2.2 hs.1 hs.2.1 hB.cl hB.off hB.num (by omega)).mono ?_
  rintro e w' ⟨X, tv, uv, told, under, rfl, hF⟩
  exact ⟨X, tv, uv, rfl, hF.go.dx, hF.go.hX, hF.go.sub, h.below.trans (hF.go.keep.below (fun k q => q)), hF.good⟩
/-- Behind the round's crash. -/
theorem LawJ.next {N : Nat} {w wr w5 : World} {d : Nat} {s : Dsk} {i : Nat} (h : LawJ N w wr d s i) (hi : i < 8) {r : RM} (hr : RmOk N w r) (hs : RSmall r) {X : Nat → Prop} (hD : Dx X w5 d (afterW s r.plain)) (hX : ∀ k, k < N → X k) (hb : Below N w w5) (hg : (goesW s r.fuse r.plain.rows).1.Good (101 * i + 100)) :
    LawJ N w w5 d (afterW s r.plain) (i + 1) := by
  obtain ⟨l0, M, hB, hM, hcl⟩ := h.bet
  have hpl : r.plain.bats.length = r.bats.length := by simp [RM.plain]
  have h20 := hs.1
  obtain ⟨l', hB', hcont, _, hu1⟩ := hB.round r.plain hr.fuse.1 (by rw [hpl]; omega)
  have htl := goesW_len s r.plain.fuse r.plain.rows
  rw [rows_len, hpl] at htl
  have hlen : (contW l').length ≤ 21 * (i + 1) := by
    rw [hcont]
    unfold haveW
    simp only
    split
    · simp only [List.length_append]; omega
    · simp only [List.length_append]; omega
  exact ⟨hb, hD.less (fun k _ q => hX k q), ⟨l', _, hB', by rw [hpl]; omega, hlen⟩, (((hg.crash r.cr).start).setFuse (n := 0) (by omega)).more (by omega), rfl⟩
section
variable {P : Program} {Q : Exit → Act → World → Prop}
def OpT3 (P : Program) (a0 : Act) (l : List Oper) (J : (Nat → Bool) → (Nat → Value) → World → Prop) (τ : Nat → Value → World → Prop) (us0 : Nat → Value) (i : Nat) (o : Oper) : Prop :=
  ∀ (d : Nat → Bool) (us : Nat → Value) (w : World), d i = false → J d us w → (∀ k, (∃ e, e ∈ o.after ∧ Region.binds .any e = true ∧ e.on = k) → d k = true ∧ τ k (us k) w) → (∀ k, laterB l i l.length k = true → d k = false ∧ us k = us0 k) → us i = us0 i →
    (Region.wanted o (yielded l.toArray (putAll 0 l us a0).tmps) = true ∧
      ∀ (K : Act → World → Prop) (Q : Exit → Act → World → Prop), (∀ v w', J (setD d i) (updU us i v) w' → τ i v w' → (∀ k u, k ≠ i → τ k u w → τ k u w') → K ((putAll 0 l us a0).put o.dst v) w') → o.wp P (putAll 0 l us a0) w K Q) ∨
    (¬ Region.wanted o (yielded l.toArray (putAll 0 l us a0).tmps) = true ∧ J (setD d i) (updU us i undef) w ∧ τ i undef w)
theorem wp_region_task3 {id : Nat} {a0 : Act} {w0 : World} {l : List Oper} (J : (Nat → Bool) → (Nat → Value) → World → Prop) (τ : Nat → Value → World → Prop) (us0 : Nat → Value)
    (hm : P.follows .mixedOrders = true) (hb : backB l = true)
    (hap : apartB l = true)
    (h0 : putAll 0 l us0 a0 = a0)
    (hst : J (fun _ => false) us0 w0.drew)
    (hop : AllOps (OpT3 P a0 l J τ us0) 0 l)
    (hend : ∀ d us w, J d us w → (∀ i, i < l.length → d i = true ∧ τ i (us i) w) → Q .normal (putAll 0 l us a0) w) : (Code.region id l.toArray true).wp P Q a0 w0 := by
  refine wp_region_inv (fun d us w => J d us w ∧ Shut l d ∧ (∀ k, d k = true → τ k (us k) w) ∧ (∀ k, d k = false → us k = us0 k)) us0 hm hb hap h0 ⟨hst, (fun _ _ _ h => (by cases h)), (fun _ h => (by cases h)), fun _ _ => rfl⟩ ?_ (fun d us w hI hd => hend d us w hI.1 (fun i hi => ⟨hd i hi, hI.2.2.1 i (hd i hi)⟩))
  have shut : ∀ (i : Nat) (o : Oper) (d : Nat → Bool), l[i]? = some o → Shut l d → (∀ k, (∃ e, e ∈ o.after ∧ Region.binds .any e = true ∧ e.on = k) → d k = true) → Shut l (setD d i) := by
    intro i o d hl hs hp k o' ho' hk e he hbd
    unfold setD at hk ⊢
    by_cases hon : e.on = i
    · rw [if_pos hon]
    · rw [if_neg hon]
      by_cases hki : k = i
      · subst hki
        rw [hl] at ho'
        injection ho' with ho'
        subst ho'
        exact hp _ ⟨e, he, hbd, rfl⟩
      · rw [if_neg hki] at hk
        exact hs k o' ho' hk e he hbd
  have conv : ∀ (ll : List Oper) (k : Nat), (∀ j o, ll[j]? = some o → l[k + j]? = some o) → AllOps (OpT3 P a0 l J τ us0) k ll → AllOps (OpInv P a0 l (fun d us w => J d us w ∧ Shut l d ∧ (∀ k, d k = true → τ k (us k) w) ∧ (∀ k, d k = false → us k = us0 k))) k ll := by
    intro ll
    induction ll with
    | nil => exact fun _ _ _ => trivial
    | cons o ll ih =>
      rintro k hat ⟨h1, h2⟩
      refine ⟨?_, ih (k + 1) (fun j o' h => by have := hat (j + 1) o' (by simpa using h); rwa [show k + (j + 1) = k + 1 + j from by omega] at this) h2⟩
      rintro d us w ⟨hJ, hs, ht, hu⟩ hd hp us' rfl
      have hlk : l[k]? = some o := by simpa using hat 0 o (by simp)
      have hs' := shut k o d hlk hs hp
      rcases h1 d us' w hd hJ (fun j hj => ⟨hp j hj, ht j (hp j hj)⟩) (fun j hj => have := laterB_not hs hd _ _ hj; ⟨this, hu j this⟩) (hu k hd) with ⟨hw, h⟩ | ⟨hw, hJ', ht'⟩
      · refine .inl ⟨hw, fun K Q hK => h K Q fun v w' hj hv hmono => hK v w' ⟨hj, hs', fun j hj => ?_, fun j hj => ?_⟩⟩
        · unfold setD at hj
          unfold updU
          by_cases hjk : j = k
          · subst hjk; rw [if_pos rfl]; exact hv
          · rw [if_neg hjk] at hj ⊢; exact hmono _ _ hjk (ht j hj)
        · unfold setD at hj
          unfold updU
          by_cases hjk : j = k
          · rw [if_pos hjk] at hj; cases hj
          · rw [if_neg hjk] at hj ⊢; exact hu j hj
      · refine .inr ⟨hw, hJ', hs', fun j hj => ?_, fun j hj => ?_⟩
        · unfold setD at hj
          unfold updU
          by_cases hjk : j = k
          · subst hjk; rw [if_pos rfl]; exact ht'
          · rw [if_neg hjk] at hj ⊢; exact ht j hj
        · unfold setD at hj
          unfold updU
          by_cases hjk : j = k
          · rw [if_pos hjk] at hj; cases hj
          · rw [if_neg hjk] at hj ⊢; exact hu j hj
  exact conv l 0 (fun j o h => by simpa using h) hop
end
/-- Memory has grown; and the block that operation ia has made holds e once operation iz is done. -/
def AJ (w0 : World) (ia iz : Nat) (T : TypeId) (z e : Array Value) (d : Nat → Bool) (us : Nat → Value) (w : World) : Prop :=
  Below w0.heap.size w0 w ∧ (d ia = true → ∃ b, us ia = .pointer (some ⟨b, 0, none⟩) ∧ w0.heap.size ≤ b ∧ Blk w b T (if d iz = true then e else z))
section
variable {w0 w w' : World} {ia iz : Nat} {T : TypeId} {z e : Array Value} {d : Nat → Bool} {us : Nat → Value}
theorem AJ.start (hne : ia ≠ iz) : AJ w0 ia iz T z e (fun _ => false) us w0.drew := ⟨(Below.refl _ _).drew, fun h => by cases h⟩
theorem AJ.cell (h : AJ w0 ia iz T z e d us w) {b o : Nat} {v : Value} (hb : b < w0.heap.size) (hc : w0.cell? ⟨b, o, none⟩ = some v) : w.cell? ⟨b, o, none⟩ = some v := (h.1.cell (p := ⟨b, o, none⟩) hb).trans hc
theorem AJ.other (h : AJ w0 ia iz T z e d us w) (i : Nat) (h1 : i ≠ ia) (h2 : i ≠ iz) {v : Value} : AJ w0 ia iz T z e (setD d i) (updU us i v) w := by
  refine ⟨h.1, fun hd => ?_⟩
  unfold setD at hd ⊢
  unfold updU
  rw [if_neg (Ne.symm h1)] at hd
  rw [if_neg (Ne.symm h1), if_neg (Ne.symm h2)]
  exact h.2 hd
theorem AJ.grow (h : AJ w0 ia iz T z e d us w) (hb : Below w.heap.size w w') : AJ w0 ia iz T z e d us w' := by
  refine ⟨h.1.trans (hb.mono h.1.size), fun hd => ?_⟩
  obtain ⟨b, h1, h2, h3⟩ := h.2 hd
  exact ⟨b, h1, h2, h3.below hb h3.lt⟩
theorem AJ.made (h : AJ w0 ia iz T z e d us w) (hne : ia ≠ iz) (hz : d iz = false) : AJ w0 ia iz T z e (setD d ia) (updU us ia (.pointer (some ⟨w.heap.size, 0, none⟩))) (w.alloc (.cells z T)) := by
  refine ⟨h.1.alloc h.1.size _, fun _ => ⟨w.heap.size, by unfold updU; rw [if_pos rfl], h.1.size, ?_⟩⟩
  unfold setD
  rw [if_neg (Ne.symm hne), if_neg (by rw [hz]; decide)]
  exact Blk.new _ _ _
theorem AJ.at_ (h : AJ w0 ia iz T z e d us w) (hd : d ia = true) (hz : d iz = false) : ∃ b, us ia = .pointer (some ⟨b, 0, none⟩) ∧ w0.heap.size ≤ b ∧ Blk w b T z := by
  have := h.2 hd
  rw [if_neg (by rw [hz]; decide)] at this
  exact this
theorem AJ.stored (h : AJ w0 ia iz T z e d us w) (hne : ia ≠ iz) {b : Nat} (hu : us ia = .pointer (some ⟨b, 0, none⟩)) (hb : w0.heap.size ≤ b) (hw : Below w0.heap.size w0 w') (hx : Blk w' b T e) {v : Value} : AJ w0 ia iz T z e (setD d iz) (updU us iz v) w' := by
  refine ⟨hw, fun hd => ⟨b, ?_, hb, ?_⟩⟩
  · unfold updU
    rw [if_neg hne]
    exact hu
  · unfold setD
    rw [if_pos rfl, if_pos rfl]
    exact hx
theorem AJ.end_ (h : AJ w0 ia iz T z e d us w) (h1 : d ia = true) (h2 : d iz = true) : Below w0.heap.size w0 w ∧ ∃ b, us ia = .pointer (some ⟨b, 0, none⟩) ∧ w0.heap.size ≤ b ∧ Blk w b T e := by
  have := h.2 h1
  rw [if_pos h2] at this
  exact ⟨h.1, this⟩
end
structure FJ (w6 : World) (H : List MB) (x : MB) (d : Nat → Bool) (us : Nat → Value) (w : World) : Prop where
  below : Below w6.heap.size w6 w
  giv : d 2 = true → d 6 = false → ∃ A c, us 2 = .slice A H.length c ∧ w.ownsRow w6.heap.size 81 2 (us 2) H.length (mbV H)
  one : d 5 = true → d 6 = false → ∃ g, us 5 = .slice (some ⟨g, 0, none⟩) 1 1 ∧ Blk w g 81 #[.int .u64 (x.b.seq : Nat), x.v]
  app : d 6 = true → ∃ A c, us 6 = .slice A (H.length + 1) c ∧ w.ownsRow w6.heap.size 81 2 (us 6) (H.length + 1) (mbV (H ++ [x]))
theorem FJ.other {w6 w w' : World} {H : List MB} {x : MB} {d : Nat → Bool} {us : Nat → Value} (h : FJ w6 H x d us w) (hb : Below w.heap.size w w') (i : Nat) (v : Value) (h2 : i ≠ 2) (h5 : i ≠ 5) (h6 : i ≠ 6) : FJ w6 H x (setD d i) (updU us i v) w' := by
  have e2 : setD d i 2 = d 2 := by unfold setD; rw [if_neg (Ne.symm h2)]
  have e5 : setD d i 5 = d 5 := by unfold setD; rw [if_neg (Ne.symm h5)]
  have e6 : setD d i 6 = d 6 := by unfold setD; rw [if_neg (Ne.symm h6)]
  have u2 : updU us i v 2 = us 2 := by unfold updU; rw [if_neg (Ne.symm h2)]
  have u5 : updU us i v 5 = us 5 := by unfold updU; rw [if_neg (Ne.symm h5)]
  have u6 : updU us i v 6 = us 6 := by unfold updU; rw [if_neg (Ne.symm h6)]
  refine ⟨h.below.trans (hb.mono h.below.size), fun a b => ?_, fun a b => ?_, fun a => ?_⟩
  · rw [e2] at a; rw [e6] at b; rw [u2]
    obtain ⟨A, c, e, ho⟩ := h.giv a b
    exact ⟨A, c, e, own_below2 ho hb⟩
  · rw [e5] at a; rw [e6] at b; rw [u5]
    obtain ⟨g, e, hg⟩ := h.one a b
    exact ⟨g, e, hg.below hb hg.lt⟩
  · rw [e6] at a; rw [u6]
    obtain ⟨A, c, e, ho⟩ := h.app a
    exact ⟨A, c, e, own_below2 ho hb⟩
end Go.Proofs.YtdbpfemkjfogoaaGreatDoor
