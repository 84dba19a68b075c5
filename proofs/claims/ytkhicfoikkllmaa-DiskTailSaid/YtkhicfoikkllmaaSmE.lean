/- Contracts: maps.EqualFunc and slices.EqualFunc of two disks that are alike. -/
import Derived.Test.YtkhicfoikkllmaaSmA
namespace Go.Proofs.Ytkhicfoikkllmaa
open Go.RowKit
set_option linter.unusedVariables false
set_option linter.unusedSimpArgs false
/-- Two disks' plain states, alike but for files that nobody names. -/
structure Dsk.Like (s1 s2 : Dsk) (D1 D2 : Nat → Prop) : Prop where
  room : s1.room = s2.room
  fuse : s1.fuse = s2.fuse
  off : s1.off = s2.off
  last : s1.last = s2.last
  chg : s1.chg = s2.chg
  file : ∀ i, i < s2.files.length → ¬ D1 i → ¬ D2 i → ∃ f, s1.files[i]? = some f ∧ s2.files[i]? = some f ∧ f.d.length ≤ 1048576
section
variable {w : World} {F1 F2 : Nat → Prop} {d1 d2 : Nat} {L1 L2 : Lay} {s1 s2 : Dsk}
set_option maxRecDepth 100000 in
set_option maxHeartbeats 4000000 in
theorem mapsEq_any (hD1 : DskAt w F1 d1 L1 s1) (hD2 : DskAt w F2 d2 L2 s2) (hs : s1.Like s2 L1.dead L2.dead) (ok : s2.Ok) (hm : s2.last.length ≤ 536870912) :
    Calls Try.prog 42 #[.map (some L1.gL), .map (some L2.gL), .func (.func 43) #[] #[]] w fun e w' => e = .returned (.bool true) ∧ Below w.heap.size w w' := by
  have hA1 := hD1.last
  have hA2 := hD2.last
  rw [hs.last] at hA1
  have n1 := World.ownsMap.len hA1 Try.underlying53 3
  have n2 := World.ownsMap.len hA2 Try.underlying53 3
  rw [nmD_size, mvM_len] at n1 n2
  have lA1 := hA1.lt
  replace hs := Lib.hid hs
  go_enter Try.func42, Try.ntmps42
  go_wp2_with (at_range; refine wpList_nm_range _ rfl _ 53 rfl 9 60 Try.underlying9 Try.underlying53 L1.gL (mvM L1.blk s2.last) rfl hA1 ?_; intro w0 hrg0 hg0 hs0)
  have hb0 : Below w.heap.size w w0 := ⟨hg0.os, hg0.tape, hg0.output, hg0.size, fun k hk => hg0.block k hk (by simp)⟩
  replace hA1 := Lib.hid hA1
  replace hA2 := Lib.hid hA2
  replace hD1 := Lib.hid hD1
  replace hD2 := Lib.hid hD2
  clear n1 n2
  go_frame
  go_loopw [18] (fun _ wr => ∃ left cnt, wr.ranges Try.prog 9 ptrR L1.gL w.heap.size (mvM L1.blk s2.last).length (nmD (mvM L1.blk s2.last)) left cnt ∧ Below w.heap.size w wr) (fun _ wr => wr.rangeLeft L1.gL w.heap.size)
  case atStart => exact ⟨_, _, hrg0, hb0⟩
  case round =>
    obtain ⟨left, cnt, hrg, hbr⟩ := hrel
    have hle := hrg.left_eq
    replace hrg := Lib.hid hrg
    replace hle := Lib.hid hle
    replace hrg0 := Lib.hid hrg0
    replace hb0 := Lib.hid hb0
    go_wp2_with (at_next; refine wpList_nm_next _ rfl _ rfl 9 Try.underlying9 L1.gL w.heap.size (mvM L1.blk s2.last) left cnt rfl hrg.out ?_ ?_)
    · intro hc0 hl0
      clear hl0 hc0
      go_wp2_with fail
      go_ret
      exact ⟨rfl, hbr⟩
    · intro x b w1 cnt1 hg hl hrg1 hlt hg1 hs1 hen
      rw [mvM_get] at hg
      obtain ⟨i, hgi, rfl⟩ := Option.map_eq_some_iff.1 hg
      have hmi := getM_mem hgi
      obtain ⟨h24, hil⟩ := ok.last _ hmi
      have hb1 : Below w.heap.size w w1 := hbr.trans ⟨hg1.os, hg1.tape, hg1.output, hg1.size, fun k hk => hg1.block k (by have := hbr.size; omega) (by simp; omega)⟩
      have hE1 := hD1.out.below hb1
      have hE2 := hD2.out.below hb1
      have hxs : x.size ≤ maxLen := by
        have : x.size = x.data.toList.length := rfl
        have h24' : x.data.toList.length ≤ 24 := h24
        unfold maxLen
        omega
      have hlk := hE2.last.look_ok (t := 53) (e := 60) Try.underlying9 Try.underlying53 (zero_file w1) hxs
      rw [mvM_get, hgi] at hlk
      simp only [Option.map_some, lookV] at hlk
      have d1 : ¬ L1.dead i := hE1.live.2.1 _ (hs.out.last ▸ hmi)
      have d2 : ¬ L2.dead i := hE2.live.2.1 _ hmi
      obtain ⟨f, f1, f2, f3⟩ := hs.out.file i hil d1 d2
      have hcall := alike_opt hE1 hE2 (some i) (fun j hj => by injection hj with hj; subst hj; exact ⟨d1, d2, f, f1, f2, f3⟩)
      simp only [Option.map_some, ptrV] at hcall
      replace hcall := Lib.hid hcall
      replace hrg1 := Lib.hid hrg1
      replace hgi := Lib.hid hgi
      replace hg := Lib.hid hg
      replace hl := Lib.hid hl
      replace hmi := Lib.hid hmi
      replace hE1 := Lib.hid hE1
      replace hE2 := Lib.hid hE2
      replace f1 := Lib.hid f1
      replace f2 := Lib.hid f2
      go_wp2_with fail
      refine hcall.out.mono ?_
      rintro e w2 ⟨rfl, hb2⟩
      have hbn := hb1.trans (hb2.mono hb1.size)
      have hrl := ranges_lt hrg1.out
      have hgl := lA1
      have hrg2 := ranges_block hrg1.out (hb2.block L1.gL (by have := hb1.size; omega)) (hb2.block w.heap.size hrl)
      replace hrg2 := Lib.hid hrg2
      replace hbn := Lib.hid hbn
      go_wp2_with fail
      go_roundw
      case rel => exact ⟨_, _, hrg2.out, hbn.out⟩
      case measure => rw [hrg2.out.left_eq, hle.out]; exact hlt
set_option maxRecDepth 100000 in
set_option maxHeartbeats 4000000 in
theorem slicesEq_any (hD1 : DskAt w F1 d1 L1 s1) (hD2 : DskAt w F2 d2 L2 s2) (hs : s1.Like s2 L1.dead L2.dead) (ok : s2.Ok) (hm : s2.chg.length ≤ 536870912) :
    Calls Try.prog 44 #[L1.vC, L2.vC, .func (.func 45) #[] #[]] w fun e w' => e = .returned (.bool true) ∧ Below w.heap.size w w' := by
  obtain ⟨A1, c1, hv1, _, _, ha1⟩ := chg_form hD1
  obtain ⟨A2, c2, hv2, _, _, ha2⟩ := chg_form hD2
  rw [hv1, hv2]
  rw [hs.chg] at ha1 ⊢
  generalize hn : s2.chg.length = n at *
  replace hs := Lib.hid hs
  replace hD1 := Lib.hid hD1
  replace hD2 := Lib.hid hD2
  replace ha1 := Lib.hid ha1
  replace ha2 := Lib.hid ha2
  replace hv1 := Lib.hid hv1
  replace hv2 := Lib.hid hv2
  go_enter Try.func44, Try.ntmps44
  go_wp2_with fail
  go_loopw [17] (fun v wr => ∃ i : Nat, i ≤ n ∧ v = .int .i64 i ∧ Below w.heap.size w wr) (fun v _ => n - (intOf v).toNat)
  case atStart => exact ⟨0, Nat.zero_le _, rfl, Below.refl _ _⟩
  case round =>
    obtain ⟨i, hi, rfl, hbr⟩ := hrel
    by_cases hlt : i < n
    · have hlt' : (i : Int) < n := by omega
      have hci : s2.chg[i]? = some s2.chg[i] := List.getElem?_eq_getElem (by omega)
      have hmem := List.getElem_mem (show i < s2.chg.length by omega)
      obtain ⟨g1, e1, hown1, hgl1, x0, x1, x2⟩ := ha1.out i _ hci
      obtain ⟨g2, e2, hown2, hgl2, y0, y1, y2⟩ := ha2.out i _ hci
      subst e1 e2
      obtain ⟨z1, z2, z3, z4⟩ := ok.chg _ hmem
      generalize s2.chg[i] = c at *
      have hB1 : Below w.heap.size w (wr.alloc (.cells #[.string (bs c.fr), .string (bs c.to), ptrV (c.f.map L1.blk)] 68)) := hbr.alloc hbr.size _
      have hB : Below w.heap.size w ((wr.alloc (.cells #[.string (bs c.fr), .string (bs c.to), ptrV (c.f.map L1.blk)] 68)).alloc (.cells #[.string (bs c.fr), .string (bs c.to), ptrV (c.f.map L2.blk)] 68)) := hB1.alloc hB1.size _
      have hcall := Same1_any (hD1.out.below hB) (hD2.out.below hB) c (fun j hj => by
        have d1 := hD1.out.live.2.2.1 c (hs.out.chg ▸ hmem) j hj
        have d2 := hD2.out.live.2.2.1 c hmem j hj
        exact ⟨d1, d2, hs.out.file j (z3 j hj) d1 d2⟩)
      unfold chgVal at hcall
      obtain ⟨p1, hp1⟩ := ptrV_form (c.f.map L1.blk)
      obtain ⟨p2, hp2⟩ := ptrV_form (c.f.map L2.blk)
      rw [hp1, hp2] at hcall hB
      rw [hp1] at x2 hB1
      rw [hp2] at y2
      have q0 := (hbr.cell (p := ⟨g1, i * 3, none⟩) hgl1).trans x0
      have q1 := (hbr.cell (p := ⟨g1, i * 3 + 1, none⟩) hgl1).trans x1
      have q2 := (hbr.cell (p := ⟨g1, i * 3 + 2, none⟩) hgl1).trans x2
      have r0 := (hB1.cell (p := ⟨g2, i * 3, none⟩) hgl2).trans y0
      have r1 := (hB1.cell (p := ⟨g2, i * 3 + 1, none⟩) hgl2).trans y1
      have r2 := (hB1.cell (p := ⟨g2, i * 3 + 2, none⟩) hgl2).trans y2
      have hz := hbr.size
      have hg1' : g1 < wr.heap.size := by omega
      have hg2' : g2 < wr.heap.size := by omega
      replace hbr := Lib.hid hbr
      replace hB1 := Lib.hid hB1
      replace hB := Lib.hid hB
      replace hcall := Lib.hid hcall
      replace hp1 := Lib.hid hp1
      replace hp2 := Lib.hid hp2
      replace hci := Lib.hid hci
      replace hmem := Lib.hid hmem
      clear x0 x1 x2 y0 y1 y2 hown1 hown2
      go_wp2_with fail
      refine hcall.out.mono ?_
      rintro e w2 ⟨rfl, hb2⟩
      have hbx := hB.out.trans (hb2.mono hB.out.size)
      replace hbx := Lib.hid hbx
      go_wp2_with fail
      go_roundw
      case rel => exact ⟨i + 1, by omega, by rfl, hbx.out⟩
      case measure => first | omega | (simp only [intOf]; omega)
    · obtain rfl : i = n := by omega
      have hlt' : ¬ (i : Int) < i := by omega
      replace hbr := Lib.hid hbr
      go_wp2_with fail
      go_ret
      exact ⟨rfl, hbr.out⟩
end
end Go.Proofs.Ytkhicfoikkllmaa
