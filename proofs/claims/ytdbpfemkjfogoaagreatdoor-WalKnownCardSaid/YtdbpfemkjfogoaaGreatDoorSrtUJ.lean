/- Contracts: slices.Sort of numbers that rise already. -/
import Derived.Test.YtdbpfemkjfogoaaGreatDoorM00
import Derived.Test.YtdbpfemkjfogoaaGreatDoorM01
import Derived.Test.YtdbpfemkjfogoaaGreatDoorShelf
import Derived.LoopTactic
import Derived.Lib.Hide
namespace Go.Proofs.YtdbpfemkjfogoaaGreatDoor
open Go.RowKit
set_option linter.unusedVariables false
set_option linter.unusedSimpArgs false
def NumsAt (w : World) (g : Nat) (l : List Nat) : Prop := ∀ i x, l[i]? = some x → w.cell? ⟨g, i, none⟩ = some (.int .u64 (x : Nat))
theorem NumsAt.below {w w' : World} {g : Nat} {l : List Nat} (h : NumsAt w g l) (hb : Below w.heap.size w w') (hg : g < w.heap.size) : NumsAt w' g l := fun i x hx => (hb.cell (p := ⟨g, i, none⟩) hg).trans (h i x hx)
theorem rise_le {l : List Nat} (h : l.Pairwise (· ≤ ·)) {i j x y : Nat} (hi : l[i]? = some x) (hj : l[j]? = some y) (hij : i ≤ j) : x ≤ y := by
  obtain ⟨h1, rfl⟩ := List.getElem?_eq_some_iff.1 hi
  obtain ⟨h2, rfl⟩ := List.getElem?_eq_some_iff.1 hj
  rcases Nat.lt_or_ge i j with h3 | h3
  · exact List.pairwise_iff_getElem.1 h i j h1 h2 h3
  · obtain rfl : i = j := by omega
    exact Nat.le_refl _
set_option maxHeartbeats 1000000 in
theorem nan_u64 (x : Int) (w : World) : Calls Tryz.prog 192 #[.int .u64 x] w fun e w' => e = .returned (.bool false) ∧ w = w' := by
  go_enter Tryz.func192, Tryz.ntmps192
  go_wp2
  go_ret
  exact ⟨by simp, rfl⟩
set_option maxHeartbeats 1000000 in
theorem less_u64 (x y : Nat) (w : World) (h : y ≤ x) : Calls Tryz.prog 151 #[.int .u64 (x : Nat), .int .u64 (y : Nat)] w fun e w' => e = .returned (.bool false) ∧ w = w' := by
  have h' : ¬ ((x : Int) < y) := by omega
  go_enter Tryz.func151, Tryz.ntmps151
  go_wp2_with (go_at_call 192; refine (nan_u64 _ _).mono ?_; rintro e w' ⟨rfl, rfl⟩)
  go_ret
  exact ⟨by simp; omega, rfl⟩
section
variable {w : World} {g n cap : Nat} {l : List Nat}
set_option maxRecDepth 100000 in
set_option maxHeartbeats 2000000 in
theorem order2_any (hg : g < w.heap.size) (hA : NumsAt w g l) (hl : l.Pairwise (· ≤ ·)) (sw : Value) (a b : Nat) (hab : a ≤ b) (hb : b < l.length) (hn : l.length ≤ 1073741824) :
    Calls Tryz.prog 216 #[.slice (some ⟨g, 0, none⟩) l.length cap, .int .i64 (a : Nat), .int .i64 (b : Nat), sw] w fun e w' => e = .returned (.tuple #[.int .i64 (a : Nat), .int .i64 (b : Nat)]) ∧ Below w.heap.size w w' := by
  have ha : a < l.length := by omega
  have q1 := hA a _ (List.getElem?_eq_getElem ha)
  have q2 := hA b _ (List.getElem?_eq_getElem hb)
  have hle := rise_le hl (List.getElem?_eq_getElem ha) (List.getElem?_eq_getElem hb) hab
  generalize l[a] = x at *
  generalize l[b] = y at *
  have hless := fun W => less_u64 y x W hle
  replace hless := Lib.hid hless
  have ha' : (a : Int) < l.length := by omega
  have hb' : (b : Int) < l.length := by omega
  replace hA := Lib.hid hA
  replace hl := Lib.hid hl
  go_enter Tryz.func216, Tryz.ntmps216
  go_wp2_with fail
  have hxc := @Ext.cell
  refine wp_region_ext (by kernel_rfl) (by kernel_rfl) ?_
  repeat (go_big_quiet_step ((first | (go_at_call 151; exact Calls.ext_same (hless.out _)))))
  refine wpQuiet_nil ?_
  clear hxc
  intro wx hwx
  obtain ⟨x, hx⟩ := hwx
  have hb := x.below
  rw [← hx] at hb
  clear hx x
  go_wp2_with fail
  go_ret2
  exact ⟨rfl, hb⟩
set_option maxRecDepth 100000 in
set_option maxHeartbeats 2000000 in
theorem median_any (hg : g < w.heap.size) (hA : NumsAt w g l) (hl : l.Pairwise (· ≤ ·)) (sw : Value) (a b c : Nat) (hab : a ≤ b) (hbc : b ≤ c) (hc : c < l.length) (hn : l.length ≤ 1073741824) :
    Calls Tryz.prog 191 #[.slice (some ⟨g, 0, none⟩) l.length cap, .int .i64 (a : Nat), .int .i64 (b : Nat), .int .i64 (c : Nat), sw] w fun e w' => e = .returned (.int .i64 (b : Nat)) ∧ Below w.heap.size w w' := by
  have h1 := Lib.hid (order2_any (cap := cap) hg hA hl sw a b hab (by omega) hn)
  replace hA := Lib.hid hA
  replace hl := Lib.hid hl
  go_enter Tryz.func191, Tryz.ntmps191
  go_wp2_with fail
  refine h1.out.mono ?_
  rintro e w1 ⟨rfl, b1⟩
  have g1 : g < w1.heap.size := by have := b1.size; omega
  have A1 := hA.out.below b1 hg
  have h2 := Lib.hid (order2_any (cap := cap) g1 A1 hl.out sw b c hbc hc hn)
  replace A1 := Lib.hid A1
  go_wp2_with fail
  refine h2.out.mono ?_
  rintro e w2 ⟨rfl, b2⟩
  have g2 : g < w2.heap.size := by have := b2.size; omega
  have A2 := A1.out.below b2 g1
  have h3 := Lib.hid (order2_any (cap := cap) g2 A2 hl.out sw a b hab (by omega) hn)
  replace A2 := Lib.hid A2
  go_wp2_with fail
  refine h3.out.mono ?_
  rintro e w3 ⟨rfl, b3⟩
  go_wp2_with fail
  go_ret
  exact ⟨rfl, b1.trans ((b2.trans (b3.mono b2.size)).mono b1.size)⟩
set_option maxRecDepth 100000 in
set_option maxHeartbeats 2000000 in
theorem medAdj_any (hg : g < w.heap.size) (hA : NumsAt w g l) (hl : l.Pairwise (· ≤ ·)) (sw : Value) (a : Nat) (h1 : 1 ≤ a) (h2 : a + 1 < l.length) (hn : l.length ≤ 1073741824) :
    Calls Tryz.prog 190 #[.slice (some ⟨g, 0, none⟩) l.length cap, .int .i64 (a : Nat), sw] w fun e w' => e = .returned (.int .i64 (a : Nat)) ∧ Below w.heap.size w w' := by
  have hm := median_any (cap := cap) hg hA hl sw (a - 1) a (a + 1) (by omega) (by omega) h2 hn
  have e1 : (((a - 1 : Nat) : Nat) : Int) = (a : Int) - 1 := by omega
  have e2 : (((a + 1 : Nat) : Nat) : Int) = (a : Int) + 1 := by omega
  rw [e1, e2] at hm
  replace hm := Lib.hid hm
  replace hA := Lib.hid hA
  replace hl := Lib.hid hl
  clear e1 e2
  go_enter Tryz.func190, Tryz.ntmps190
  go_wp2_with fail
  refine hm.out.mono ?_
  rintro e w1 ⟨rfl, b1⟩
  go_wp2_with fail
  go_ret
  exact ⟨rfl, b1⟩
set_option maxRecDepth 100000 in
set_option maxHeartbeats 2000000 in
theorem ins_any (hg : g < w.heap.size) (hA : NumsAt w g l) (hl : l.Pairwise (· ≤ ·)) (hn : l.length ≤ 1073741824) :
    Calls Tryz.prog 145 #[.slice (some ⟨g, 0, none⟩) l.length cap, .int .i64 0, .int .i64 (l.length : Nat)] w fun e w' => e = .returned (.tuple #[]) ∧ Below w.heap.size w w' := by
  replace hA := Lib.hid hA
  replace hl := Lib.hid hl
  go_enter Tryz.func145, Tryz.ntmps145
  go_wp2_with fail
  go_loopw [6] (fun iv wr => ∃ i : Nat, 1 ≤ i ∧ i ≤ l.length + 1 ∧ iv = .int .i64 (i : Nat) ∧ Below w.heap.size w wr) (fun iv _ => l.length + 1 - (intOf iv).toNat)
  case atStart => exact ⟨1, Nat.le_refl _, by omega, rfl, Below.refl _ _⟩
  case round =>
    obtain ⟨i, hi1, hi2, rfl, hbr⟩ := hrel
    by_cases hlt : i < l.length
    · have hlt' : (i : Int) < l.length := by omega
      obtain ⟨k, rfl⟩ : ∃ k, i = k + 1 := ⟨i - 1, by omega⟩
      have gr : g < wr.heap.size := by have := hbr.size; omega
      have Ar := hA.out.below hbr hg
      obtain ⟨w1, rfl⟩ : ∃ w1, w1 = wr := ⟨_, rfl⟩
      go_wp2_with fail
      go_loopw [7] (fun jv wq => jv = .int .i64 ((k + 1 : Nat) : Int) ∧ Below w1.heap.size w1 wq) (fun _ _ => 0)
      case atStart => exact ⟨rfl, Below.refl _ _⟩
      case round =>
        obtain ⟨rfl, hbq⟩ := hrel
        have gq : g < wr.heap.size := by have := hbq.size; omega
        have Aq := Ar.below hbq gr
        have hk0 : k < l.length := by omega
        have q1 := Aq k _ (List.getElem?_eq_getElem hk0)
        have q2 := Aq (k + 1) _ (List.getElem?_eq_getElem hlt)
        have hle := rise_le hl.out (List.getElem?_eq_getElem hk0) (List.getElem?_eq_getElem hlt) (by omega)
        generalize l[k] = x at *
        generalize l[k + 1] = y at *
        have hless := fun W => less_u64 y x W hle
        replace hless := Lib.hid hless
        have hj0 : decide ((0 : Int) < (k : Int) + 1) = true := by first | (simp; done) | (simp; omega)
        have hjs : (0 : Int) < (k : Int) + 1 := by omega
        have hks : (k : Int) < l.length := by omega
        have hbrq := hbr.trans (hbq.mono (by have := hbr.size; omega))
        replace Aq := Lib.hid Aq
        replace Ar := Lib.hid Ar
        replace hbr := Lib.hid hbr
        replace hbq := Lib.hid hbq
        replace hbrq := Lib.hid hbrq
        go_wp2_with fail
        have hxc := @Ext.cell
        refine wp_region_ext (by kernel_rfl) (by kernel_rfl) ?_
        repeat (go_big_quiet_step ((first | (go_at_call 151; exact Calls.ext_same (hless.out _)))))
        refine wpQuiet_nil ?_
        clear hxc
        intro wx hwx
        obtain ⟨x, hx⟩ := hwx
        have hb := x.below
        rw [← hx] at hb
        clear hx x
        have hbx := hbrq.out.trans (hb.mono (by have := hbrq.out.size; omega))
        replace hbx := Lib.hid hbx
        clear hb
        go_wp2_with fail
        exact ⟨⟨k + 1 + 1, by omega, by omega, by go_num, hbx.out⟩, by simp [intOf]; omega⟩
    · have hlt' : ¬ (i : Int) < l.length := by omega
      go_wp2_with fail
      go_end0
      exact ⟨rfl, hbr⟩
set_option maxRecDepth 100000 in
set_option maxHeartbeats 2000000 in
theorem pivot_any (hg : g < w.heap.size) (hA : NumsAt w g l) (hl : l.Pairwise (· ≤ ·)) (h12 : 12 < l.length) (hn : l.length ≤ 1073741824) :
    Calls Tryz.prog 148 #[.slice (some ⟨g, 0, none⟩) l.length cap, .int .i64 0, .int .i64 (l.length : Nat)] w fun e w' => (∃ j : Nat, e = .returned (.tuple #[.int .i64 (j : Nat), .int .i64 1])) ∧ Below w.heap.size w w' := by
  obtain ⟨q, hq⟩ : ∃ q, l.length / 4 = q := ⟨_, rfl⟩
  have hqd : ((l.length : Nat) : Int).tdiv 4 = (q : Nat) := by rw [← hq]; rw [Int.tdiv_eq_ediv_of_nonneg (by omega)]; omega
  have hqd2 : ((l.length : Nat) : Int) / 4 = (q : Nat) := by omega
  have hq0 : q * 3 < l.length := by omega
  have h8 : (8 : Int) ≤ l.length := by omega
  by_cases h50 : 50 ≤ l.length
  · have h50' : (50 : Int) ≤ l.length := by omega
    have hadj := Lib.hid (fun (W : World) (gW : g < W.heap.size) (AW : NumsAt W g l) (a : Nat) (h1 : 1 ≤ a) (h2 : a + 1 < l.length) => medAdj_any (w := W) (cap := cap) gW AW hl (.pointer (some ⟨w.heap.size, 0, none⟩)) a h1 h2 hn)
    have h4 := Lib.hid (fun (W : World) (gW : g < W.heap.size) (AW : NumsAt W g l) => median_any (w := W) (cap := cap) gW AW hl (.pointer (some ⟨w.heap.size, 0, none⟩)) q (q * 2) (q * 3) (by omega) (by omega) (by omega) hn)
    have e1 : ((q : Nat) : Int) * 1 = (q : Nat) := by omega
    have e2 : ((q : Nat) : Int) * 2 = ((q * 2 : Nat) : Int) := by omega
    have e3 : ((q : Nat) : Int) * 3 = ((q * 3 : Nat) : Int) := by omega
    obtain ⟨q2, hq2⟩ : ∃ x, q * 2 = x := ⟨_, rfl⟩
    obtain ⟨q3, hq3⟩ : ∃ x, q * 3 = x := ⟨_, rfl⟩
    rw [hq2, hq3] at h4
    rw [hq2] at e2
    rw [hq3] at e3
    replace hA := Lib.hid hA
    replace hl := Lib.hid hl
    replace hqd := Lib.hid hqd
    replace hq2 := Lib.hid hq2
    replace hq3 := Lib.hid hq3
    have b0 := (Below.refl w.heap.size w).alloc (Nat.le_refl _) (.cells #[.int .i64 0] 3)
    go_enter Tryz.func148, Tryz.ntmps148
    go_wp2_with fail
    refine (hadj.out _ (by simp; omega) (hA.out.below b0 hg) q (by omega) (by omega)).mono ?_
    rintro e w1 ⟨rfl, b1⟩
    have B1 : Below w.heap.size w w1 := b0.trans (b1.mono (by simp))
    have g1 : g < w1.heap.size := by have := B1.size; omega
    have A1 := hA.out.below B1 hg
    have sw1 : w1.cell? ⟨w.heap.size, 0, none⟩ = some (.int .i64 0) := (b1.cell (p := ⟨w.heap.size, 0, none⟩) (by simp)).trans (by simp [go_sem])
    have l1 : w.heap.size < w1.heap.size := by have := b1.size; simp at this; omega
    replace A1 := Lib.hid A1
    clear b1
    skip
    go_wp2_with fail
    refine (hadj.out w1 g1 A1.out q2 (by have := hq2.out; omega) (by have := hq2.out; omega)).mono ?_
    rintro e w2 ⟨rfl, b2⟩
    have B2 : Below w.heap.size w w2 := B1.trans (b2.mono B1.size)
    have g2 : g < w2.heap.size := by have := B2.size; omega
    have A2 := hA.out.below B2 hg
    have sw2 : w2.cell? ⟨w.heap.size, 0, none⟩ = some (.int .i64 0) := (b2.cell (p := ⟨w.heap.size, 0, none⟩) (by have := l1; omega)).trans sw1
    have l2 : w.heap.size < w2.heap.size := by have := b2.size; have := l1; omega
    replace A2 := Lib.hid A2
    clear b2
    clear sw1
    go_wp2_with fail
    refine (hadj.out w2 g2 A2.out q3 (by have := hq3.out; omega) (by have := hq3.out; omega)).mono ?_
    rintro e w3 ⟨rfl, b3⟩
    have B3 : Below w.heap.size w w3 := B2.trans (b3.mono B2.size)
    have g3 : g < w3.heap.size := by have := B3.size; omega
    have A3 := hA.out.below B3 hg
    have sw3 : w3.cell? ⟨w.heap.size, 0, none⟩ = some (.int .i64 0) := (b3.cell (p := ⟨w.heap.size, 0, none⟩) (by have := l2; omega)).trans sw2
    have l3 : w.heap.size < w3.heap.size := by have := b3.size; have := l2; omega
    replace A3 := Lib.hid A3
    clear b3
    clear sw2
    go_wp2_with fail
    refine (h4.out w3 g3 A3.out).mono ?_
    rintro e wf ⟨rfl, bf⟩
    have swf : wf.cell? ⟨w.heap.size, 0, none⟩ = some (.int .i64 0) := (bf.cell (p := ⟨w.heap.size, 0, none⟩) l3).trans sw3
    have lf : w.heap.size < wf.heap.size := by have := bf.size; omega
    have Bf : Below w.heap.size w wf := B3.trans (bf.mono B3.size)
    clear bf sw3
    go_wp2_with fail
    go_ret2
    exact ⟨⟨q2, rfl⟩, Bf⟩
  · have h50' : ¬ (50 : Int) ≤ l.length := by omega
    have h4 := Lib.hid (fun (W : World) (gW : g < W.heap.size) (AW : NumsAt W g l) => median_any (w := W) (cap := cap) gW AW hl (.pointer (some ⟨w.heap.size, 0, none⟩)) q (q * 2) (q * 3) (by omega) (by omega) (by omega) hn)
    have e1 : ((q : Nat) : Int) * 1 = (q : Nat) := by omega
    have e2 : ((q : Nat) : Int) * 2 = ((q * 2 : Nat) : Int) := by omega
    have e3 : ((q : Nat) : Int) * 3 = ((q * 3 : Nat) : Int) := by omega
    obtain ⟨q2, hq2⟩ : ∃ x, q * 2 = x := ⟨_, rfl⟩
    obtain ⟨q3, hq3⟩ : ∃ x, q * 3 = x := ⟨_, rfl⟩
    rw [hq2, hq3] at h4
    rw [hq2] at e2
    rw [hq3] at e3
    replace hA := Lib.hid hA
    replace hl := Lib.hid hl
    replace hqd := Lib.hid hqd
    replace hq2 := Lib.hid hq2
    replace hq3 := Lib.hid hq3
    have b0 := (Below.refl w.heap.size w).alloc (Nat.le_refl _) (.cells #[.int .i64 0] 3)
    go_enter Tryz.func148, Tryz.ntmps148
    go_wp2_with fail
    refine (h4.out _ (by simp; omega) (hA.out.below b0 hg)).mono ?_
    rintro e wf ⟨rfl, bf⟩
    have swf : wf.cell? ⟨w.heap.size, 0, none⟩ = some (.int .i64 0) := (bf.cell (p := ⟨w.heap.size, 0, none⟩) (by simp)).trans (by simp [go_sem])
    have lf : w.heap.size < wf.heap.size := by have := bf.size; simp at this; omega
    have Bf : Below w.heap.size w wf := b0.trans (bf.mono (by simp))
    clear bf
    go_wp2_with fail
    go_ret2
    exact ⟨⟨q2, rfl⟩, Bf⟩
set_option maxRecDepth 100000 in
set_option maxHeartbeats 2000000 in
theorem part_any (hg : g < w.heap.size) (hA : NumsAt w g l) (hl : l.Pairwise (· ≤ ·)) (h12 : 12 < l.length) (hn : l.length ≤ 1073741824) :
    Calls Tryz.prog 150 #[.slice (some ⟨g, 0, none⟩) l.length cap, .int .i64 0, .int .i64 (l.length : Nat)] w fun e w' => e = .returned (.bool true) ∧ Below w.heap.size w w' := by
  replace hA := Lib.hid hA
  replace hl := Lib.hid hl
  go_enter Tryz.func150, Tryz.ntmps150
  go_wp2_with fail
  go_loopw [7, 8] (fun kv jv wr => kv = .int .i64 1 ∧ jv = .int .i64 0 ∧ w = wr) (fun _ _ _ => 0)
  case atStart => exact ⟨rfl, rfl, rfl⟩
  case round =>
    obtain ⟨rfl, rfl, rfl⟩ := hrel
    go_wp2_with fail
    go_loopw [7] (fun iv wr => ∃ i : Nat, 1 ≤ i ∧ i ≤ l.length ∧ iv = .int .i64 (i : Nat) ∧ Below w.heap.size w wr) (fun iv _ => l.length - (intOf iv).toNat)
    case atStart => exact ⟨1, Nat.le_refl _, by omega, rfl, Below.refl _ _⟩
    case round =>
      obtain ⟨i, hi1, hi2, rfl, hbr⟩ := hrel
      by_cases hlt : i < l.length
      · obtain ⟨k, rfl⟩ : ∃ k, i = k + 1 := ⟨i - 1, by omega⟩
        have gr : g < wr.heap.size := by have := hbr.size; omega
        have Ar := hA.out.below hbr hg
        have hk0 : k < l.length := by omega
        have q1 := Ar k _ (List.getElem?_eq_getElem hk0)
        have q2 := Ar (k + 1) _ (List.getElem?_eq_getElem hlt)
        have hle := rise_le hl.out (List.getElem?_eq_getElem hk0) (List.getElem?_eq_getElem hlt) (by omega)
        generalize l[k] = x at *
        generalize l[k + 1] = y at *
        have hless := fun W => less_u64 y x W hle
        replace hless := Lib.hid hless
        have hjs : (k : Int) + 1 < l.length := by omega
        have hj0 : decide ((k : Int) + 1 < l.length) = true := by simpa using hjs
        have hks : (k : Int) < l.length := by omega
        replace Ar := Lib.hid Ar
        replace hbr := Lib.hid hbr
        go_wp2_with fail
        have hxc := @Ext.cell
        refine wp_region_ext (by kernel_rfl) (by kernel_rfl) ?_
        repeat (go_big_quiet_step ((first | (go_at_call 151; exact Calls.ext_same (hless.out _)))))
        refine wpQuiet_nil ?_
        clear hxc
        intro wx hwx
        obtain ⟨x, hx⟩ := hwx
        have hb := x.below
        rw [← hx] at hb
        clear hx x
        have hbx := hbr.out.trans (hb.mono (by have := hbr.out.size; omega))
        replace hbx := Lib.hid hbx
        clear hb
        go_wp2_with fail
        exact ⟨⟨k + 1 + 1, by omega, by omega, by go_num, hbx.out⟩, by simp [intOf]; omega⟩
      · obtain rfl : i = l.length := by omega
        have hj0 : decide (((l.length : Nat) : Int) < l.length) = false := by simp
        replace hbr := Lib.hid hbr
        go_wp2_with fail
        have hxc := @Ext.cell
        refine wp_region_ext (by kernel_rfl) (by kernel_rfl) ?_
        repeat (go_big_quiet_step ((first | fail)))
        refine wpQuiet_nil ?_
        clear hxc
        intro wx hwx
        obtain ⟨x, hx⟩ := hwx
        have hb := x.below
        rw [← hx] at hb
        clear hx x
        have hbx := hbr.out.trans (hb.mono (by have := hbr.out.size; omega))
        replace hbx := Lib.hid hbx
        clear hb
        go_wp2_with fail
        go_ret
        exact ⟨rfl, hbx.out⟩
set_option maxRecDepth 100000 in
set_option maxHeartbeats 2000000 in
theorem pdq_any (hg : g < w.heap.size) (hA : NumsAt w g l) (hl : l.Pairwise (· ≤ ·)) (hn : l.length ≤ 1073741824) (lim : Nat) (hlim : 12 < l.length → 0 < lim) :
    Calls Tryz.prog 107 #[.slice (some ⟨g, 0, none⟩) l.length cap, .int .i64 0, .int .i64 (l.length : Nat), .int .i64 (lim : Nat)] w fun e w' => e = .returned (.tuple #[]) ∧ Below w.heap.size w w' := by
  have h1 := Lib.hid (ins_any (cap := cap) hg hA hl hn)
  by_cases h12 : 12 < l.length
  · have h2 := Lib.hid (pivot_any (cap := cap) hg hA hl h12 hn)
    have h12' : ¬ ((l.length : Nat) : Int) ≤ 12 := by omega
    have hlim' : ¬ ((lim : Nat) : Int) = 0 := by have := hlim h12; omega
    replace hA := Lib.hid hA
    replace hl := Lib.hid hl
    go_enter Tryz.func107, Tryz.ntmps107
    go_wp2_with fail
    go_loopw [1, 2, 3, 8, 9] (fun av bv lv xv yv wr => av = .int .i64 0 ∧ bv = .int .i64 (l.length : Nat) ∧ lv = .int .i64 (lim : Nat) ∧ xv = .bool true ∧ yv = .bool true ∧ w = wr) (fun _ _ _ _ _ _ => 0)
    case atStart => exact ⟨rfl, rfl, rfl, rfl, rfl, rfl⟩
    case round =>
      obtain ⟨rfl, rfl, rfl, rfl, rfl, rfl⟩ := hrel
      go_wp2_with fail
      refine h2.out.mono ?_
      rintro e w1 ⟨⟨j, rfl⟩, b1⟩
      have g1 : g < w1.heap.size := by have := b1.size; omega
      have A1 := hA.out.below b1 hg
      have h3 := Lib.hid (part_any (cap := cap) g1 A1 hl.out h12 hn)
      replace A1 := Lib.hid A1
      replace b1 := Lib.hid b1
      go_wp2_with fail
      refine h3.out.mono ?_
      rintro e w2 ⟨rfl, b2⟩
      have b3 := b1.out.trans (b2.mono b1.out.size)
      clear b2
      go_wp2_with fail
      refine bodyPost_ret (results_none (by kernel_rfl) _ _ _) rfl ?_
      exact ⟨rfl, b3⟩
  · have h12' : ((l.length : Nat) : Int) ≤ 12 := by omega
    replace hA := Lib.hid hA
    replace hl := Lib.hid hl
    go_enter Tryz.func107, Tryz.ntmps107
    go_wp2_with fail
    go_loopw [1, 2, 3, 8, 9] (fun av bv lv xv yv wr => av = .int .i64 0 ∧ bv = .int .i64 (l.length : Nat) ∧ lv = .int .i64 (lim : Nat) ∧ xv = .bool true ∧ yv = .bool true ∧ w = wr) (fun _ _ _ _ _ _ => 0)
    case atStart => exact ⟨rfl, rfl, rfl, rfl, rfl, rfl⟩
    case round =>
      obtain ⟨rfl, rfl, rfl, rfl, rfl, rfl⟩ := hrel
      go_wp2_with fail
      refine h1.out.mono ?_
      rintro e w1 ⟨rfl, b1⟩
      go_wp2_with fail
      refine bodyPost_ret (results_none (by kernel_rfl) _ _ _) rfl ?_
      exact ⟨rfl, b1⟩
set_option maxRecDepth 100000 in
set_option maxHeartbeats 2000000 in
theorem Sort_some (hg : g < w.heap.size) (hA : NumsAt w g l) (hl : l.Pairwise (· ≤ ·)) (hn : l.length ≤ 1073741824) :
    Calls Tryz.prog 59 #[.slice (some ⟨g, 0, none⟩) l.length cap] w fun e w' => e = .returned (.tuple #[]) ∧ Below w.heap.size w w' := by
  have hlen := Lib.hid (Tryz.bits_Len (l.length : Nat) w (by omega) (by omega))
  have hpos : 12 < l.length → 0 < Lib.bitLen l.length := fun h => by
    have : ∀ f x, 0 < x → 0 < f → 0 < Lib.bitLenAux f x := by
      intro f x h1 h2
      cases f with
      | zero => omega
      | succ f =>
        unfold Lib.bitLenAux
        split <;> omega
    exact this 64 _ (by omega) (by decide)
  have hpd := Lib.hid (pdq_any (cap := cap) hg hA hl hn (Lib.bitLen l.length) hpos)
  replace hA := Lib.hid hA
  replace hl := Lib.hid hl
  go_enter Tryz.func59, Tryz.ntmps59
  go_wp2_with fail
  refine hlen.out.mono ?_
  rintro e w1 ⟨rfl, rfl⟩
  simp only [Int.toNat_natCast]
  go_wp2_with fail
  refine hpd.out.mono ?_
  rintro e w2 ⟨rfl, b2⟩
  go_wp2_with fail
  go_end0
  exact ⟨rfl, b2⟩
end
end Go.Proofs.YtdbpfemkjfogoaaGreatDoor
