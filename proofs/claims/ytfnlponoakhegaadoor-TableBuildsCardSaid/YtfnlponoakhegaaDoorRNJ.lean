/- The document's builder: Add. -/
import Derived.Test.YtfnlponoakhegaaDoorRLJ
import Derived.Test.YtfnlponoakhegaaDoorB24
import Derived.Deep.DeepCutAuto
namespace Go.Proofs.YtfnlponoakhegaaDoor
open Go.RowKit
set_option linter.unusedVariables false
set_option linter.unusedSimpArgs false
set_option maxRecDepth 100000 in
set_option maxHeartbeats 40000000 in
theorem DAdd_bad {w : World} {B g n : Nat} {lv : Int} {own : List Ent} {done : Bool} {v : Value} (h : DBAt w B g n lv own done v) (hl : own.length ≤ 1000) (e : Ent) (hk : e.key.length ≤ 1048576) (hv : e.value.length ≤ 1048576) (hq : e.seq < 18446744073709551616) (he : docErr done own e ≠ 0) :
    Calls Tryd.prog 20 #[.pointer (some ⟨g, 0, none⟩), .agg (entC e)] w fun r w' => r = .returned (.tuple #[.string (bs []), .int .i64 (docErr done own e : Nat)]) ∧ Below w.heap.size w w' := by
  have hE : Blk (w.alloc (.cells (entC e) 33)) w.heap.size 33 (entC e) := Blk.new _ _ _
  have hbe : Below w.heap.size w (w.alloc (.cells (entC e) 33)) := (Below.refl _ _).alloc (Nat.le_refl _) _
  have hlw := h.blk.lt
  have hB0 := h.blk.alloc (.cells (entC e) 33)
  obtain ⟨A, cap, rfl⟩ : ∃ A cap, v = .slice A own.length cap := by
    rcases h.row.2 with ⟨rfl, e⟩ | ⟨g, cap, cur, rfl, _⟩
    · exact ⟨none, 0, by rw [e]⟩
    · exact ⟨_, cap, rfl⟩
  obtain ⟨w1, hw1⟩ : ∃ w1, w.alloc (.cells (entC e) 33) = w1 := ⟨_, rfl⟩
  have hlx : w.heap.size < (w.alloc (.cells (entC e) 33)).heap.size := by rw [World.size_alloc]; omega
  have hO1 : OwnE (w.alloc (.cells (entC e) 33)) B (.slice A own.length cap) own := World.ownsRow.alloc h.row _
  rw [hw1] at hE hbe hB0 hlx hO1
  have hlg := hB0.lt
  have c2 : w1.cell? ⟨g, 2, none⟩ = some (.slice A own.length cap) := hB0.cell 2
  have c3 : w1.cell? ⟨g, 3, none⟩ = some (.bool done) := hB0.cell 3
  have e0 : w1.cell? ⟨w.heap.size, 0, none⟩ = some (.string (bs e.key)) := hE.cell 0
  have e1 : w1.cell? ⟨w.heap.size, 1, none⟩ = some (.string (bs e.value)) := hE.cell 1
  have e2 : w1.cell? ⟨w.heap.size, 2, none⟩ = some (.int .u64 (e.seq : Nat)) := hE.cell 2
  have e3 : w1.cell? ⟨w.heap.size, 3, none⟩ = some (.bool e.gone) := hE.cell 3
  have hzk : (bs e.key).size = e.key.length := bs_size _
  have hzv : (bs e.value).size = e.value.length := bs_size _
  go_enter Tryd.func20, Tryd.ntmps20
  generalize hdr : docErr done own e = der at *
  unfold docErr at hdr
  cases done with
  | true =>
    rw [if_pos rfl] at hdr
    subst hdr
    go_wp2_with fail
    go_ret2
    exact ⟨rfl, hbe⟩
  | false =>
    rw [if_neg (by decide)] at hdr
    by_cases hk64 : 64 < e.key.length
    · rw [if_pos (.inl hk64)] at hdr
      subst hdr
      have hk64' : (64 : Int) < (e.key.length : Nat) := by omega
      go_wp2_with fail
      go_ret2
      exact ⟨rfl, hbe⟩
    · by_cases hv512 : 512 < e.value.length
      · rw [if_pos (.inr hv512)] at hdr
        subst hdr
        have hk64' : ¬ (64 : Int) < (e.key.length : Nat) := by omega
        have hv512' : (512 : Int) < (e.value.length : Nat) := by omega
        go_wp2_with fail
        go_ret2
        exact ⟨rfl, hbe⟩
      · rw [if_neg (by omega)] at hdr
        have hk64' : ¬ (64 : Int) < (e.key.length : Nat) := by omega
        have hv512' : ¬ (512 : Int) < (e.value.length : Nat) := by omega
        have hbad : docBad own e = true := by
          by_cases hb : docBad own e = true
          · exact hb
          · rw [if_neg hb] at hdr
            exact absurd hdr.symm he
        rw [if_pos hbad] at hdr
        subst hdr
        clear he
        go_upto_if 74 with fail
        by_cases hk0 : e.key.length = 0
        · have hk0b : (((e.key.length : Nat) : Int) == 0) = true := by rw [hk0]; rfl
          clear hk0 hbad
          go_wp2_with fail
          have hxc := @Ext.cell
          refine wp_region_ext (by kernel_rfl) (by kernel_rfl) ?_
          repeat (go_big_quiet_step ((first | fail)))
          refine wpQuiet_nil ?_
          clear hxc
          intro wx hwx
          obtain ⟨x, hx⟩ := hwx
          have hb := x.below
          rw [← hx] at hb
          clear hx x
          go_wp2_with fail
          go_ret2
          exact ⟨rfl, hbe.trans (hb.mono hbe.size)⟩
        · have hk0b : (((e.key.length : Nat) : Int) == 0) = false := by simpa using hk0
          by_cases hgv : e.gone = true ∧ 0 < e.value.length
          · obtain ⟨hg1, hv1⟩ := hgv
            have hv1' : (0 : Int) < (e.value.length : Nat) := by omega
            rw [hg1] at e3
            clear hbad hk0
            replace hg1 := Lib.hid hg1
            go_wp2_with fail
            have hxc := @Ext.cell
            refine wp_region_ext (by kernel_rfl) (by kernel_rfl) ?_
            repeat (go_big_quiet_step ((first | fail)))
            refine wpQuiet_nil ?_
            clear hxc
            intro wx hwx
            obtain ⟨x, hx⟩ := hwx
            have hb := x.below
            rw [← hx] at hb
            clear hx x
            go_wp2_with fail
            go_ret2
            exact ⟨rfl, hbe.trans (hb.mono hbe.size)⟩
          · have hrest : (decide (e.seq = 0) || decide (9223372036854775808 < e.seq) || (match own.getLast? with | none => false | some y => !aheadE y e)) = true := by
              unfold docBad at hbad
              have hkn : e.key ≠ [] := fun h => hk0 (by rw [h]; rfl)
              have hgn : (e.gone && !decide (e.value = [])) = false := by
                by_cases hg : e.gone = true
                · have : ¬ 0 < e.value.length := fun h => hgv ⟨hg, h⟩
                  have hvn : e.value = [] := List.eq_nil_of_length_eq_zero (by omega)
                  simp [hvn]
                · simp [hg]
              rw [decide_eq_false hkn, hgn, Bool.false_or, Bool.false_or] at hbad
              exact hbad
            rcases hg : e.gone
            · rw [hg] at e3
              by_cases hs0 : e.seq = 0
              · have hs0b : (((e.seq : Nat) : Int) == 0) = true := by rw [hs0]; rfl
                clear hrest hs0 hbad hk0
                go_wp2_with fail
                have hxc := @Ext.cell
                refine wp_region_ext (by kernel_rfl) (by kernel_rfl) ?_
                repeat (go_big_quiet_step ((first | fail)))
                refine wpQuiet_nil ?_
                clear hxc
                intro wx hwx
                obtain ⟨x, hx⟩ := hwx
                have hb := x.below
                rw [← hx] at hb
                clear hx x
                go_wp2_with fail
                go_ret2
                exact ⟨rfl, hbe.trans (hb.mono hbe.size)⟩
              · have hs0b : (((e.seq : Nat) : Int) == 0) = false := by simpa using hs0
                by_cases hsx : 9223372036854775808 < e.seq
                · have hsx' : (9223372036854775808 : Int) < (e.seq : Nat) := by omega
                  clear hrest hsx hbad hk0 hs0
                  go_wp2_with fail
                  have hxc := @Ext.cell
                  refine wp_region_ext (by kernel_rfl) (by kernel_rfl) ?_
                  repeat (go_big_quiet_step ((first | fail)))
                  refine wpQuiet_nil ?_
                  clear hxc
                  intro wx hwx
                  obtain ⟨x, hx⟩ := hwx
                  have hb := x.below
                  rw [← hx] at hb
                  clear hx x
                  go_wp2_with fail
                  go_ret2
                  exact ⟨rfl, hbe.trans (hb.mono hbe.size)⟩
                · have hsx' : ¬ (9223372036854775808 : Int) < (e.seq : Nat) := by omega
                  have hsxb : decide ((9223372036854775808 : Int) < ((e.seq : Nat) : Int)) = false := decide_eq_false hsx'
                  rw [decide_eq_false hs0, decide_eq_false hsx, Bool.false_or, Bool.false_or] at hrest
                  obtain ⟨y, hy, hah⟩ : ∃ y, own.getLast? = some y ∧ aheadE y e = false := by
                    rcases hg : own.getLast? with _ | y
                    · rw [hg] at hrest; cases hrest
                    · rw [hg] at hrest; exact ⟨y, rfl, by simpa using hrest⟩
                  have hop : 0 < own.length := by
                    rcases own with _ | ⟨a, own⟩
                    · cases hy
                    · simp
                  have hon : (0 : Int) < (own.length : Nat) := by omega
                  have hyl : own[own.length - 1]? = some y := by rw [← List.getLast?_eq_getElem?]; exact hy
                  obtain ⟨ad, rfl, hab, acell⟩ := (Reads.of_own hO1).2 hop
                  obtain ⟨bb, oo, rfl⟩ := plain_cell (acell 0 _ (entsC_at own 0 own[0] (List.getElem?_eq_getElem (by omega))).1)
                  obtain ⟨q0, q1, q2, q3⟩ := entsC_at own _ _ hyl
                  replace q0 := acell _ _ q0
                  replace q1 := acell _ _ q1
                  replace q2 := acell _ _ q2
                  replace q3 := acell _ _ q3
                  rw [add_off] at q0 q1 q2 q3
                  rw [← Nat.add_assoc] at q1 q2 q3
                  have hab' : bb < w1.heap.size := hab
                  have hi7 : ((own.length : Nat) : Int) - 1 = ((own.length - 1 : Nat) : Int) := by omega
                  have hi7' : own.length - 1 < own.length := by omega
                  have hcon := fun W => RAhead_any y e W
                  unfold entC at hcon
                  rw [hah] at hcon
                  generalize hln : own.length - 1 = ln at *
                  replace hln := Lib.hid hln
                  replace hcon := Lib.hid hcon
                  replace hO1 := Lib.hid hO1
                  clear hrest hsx hbad hk0 hs0 acell hy hyl hah h
                  rw [hg] at hcon
                  go_wp2_with fail
                  have hxc := @Ext.cell
                  refine wp_region_ext (by kernel_rfl) (by kernel_rfl) ?_
                  repeat (go_big_quiet_step ((first | (go_at_call 49; exact Calls.ext (hcon.out _)))))
                  refine wpQuiet_nil ?_
                  clear hxc
                  intro wx hwx
                  obtain ⟨x, hx⟩ := hwx
                  have hb := x.below
                  rw [← hx] at hb
                  clear hx x
                  go_wp2_with fail
                  go_ret2
                  exact ⟨rfl, hbe.trans (hb.mono hbe.size)⟩
            · have hv0 : ¬ (0 : Int) < (e.value.length : Nat) := by
                intro h
                exact hgv ⟨hg, by omega⟩
              rw [hg] at e3
              have hvn : e.value = [] := List.eq_nil_of_length_eq_zero (by omega)
              rw [hvn] at e1
              have hz00 : (bs ([] : L)).size = 0 := rfl
              clear hzv hv512' hgv hv0
              by_cases hs0 : e.seq = 0
              · have hs0b : (((e.seq : Nat) : Int) == 0) = true := by rw [hs0]; rfl
                clear hrest hs0 hbad hk0
                go_wp2_with fail
                have hxc := @Ext.cell
                refine wp_region_ext (by kernel_rfl) (by kernel_rfl) ?_
                repeat (go_big_quiet_step ((first | fail)))
                refine wpQuiet_nil ?_
                clear hxc
                intro wx hwx
                obtain ⟨x, hx⟩ := hwx
                have hb := x.below
                rw [← hx] at hb
                clear hx x
                go_wp2_with fail
                go_ret2
                exact ⟨rfl, hbe.trans (hb.mono hbe.size)⟩
              · have hs0b : (((e.seq : Nat) : Int) == 0) = false := by simpa using hs0
                by_cases hsx : 9223372036854775808 < e.seq
                · have hsx' : (9223372036854775808 : Int) < (e.seq : Nat) := by omega
                  clear hrest hsx hbad hk0 hs0
                  go_wp2_with fail
                  have hxc := @Ext.cell
                  refine wp_region_ext (by kernel_rfl) (by kernel_rfl) ?_
                  repeat (go_big_quiet_step ((first | fail)))
                  refine wpQuiet_nil ?_
                  clear hxc
                  intro wx hwx
                  obtain ⟨x, hx⟩ := hwx
                  have hb := x.below
                  rw [← hx] at hb
                  clear hx x
                  go_wp2_with fail
                  go_ret2
                  exact ⟨rfl, hbe.trans (hb.mono hbe.size)⟩
                · have hsx' : ¬ (9223372036854775808 : Int) < (e.seq : Nat) := by omega
                  have hsxb : decide ((9223372036854775808 : Int) < ((e.seq : Nat) : Int)) = false := decide_eq_false hsx'
                  rw [decide_eq_false hs0, decide_eq_false hsx, Bool.false_or, Bool.false_or] at hrest
                  obtain ⟨y, hy, hah⟩ : ∃ y, own.getLast? = some y ∧ aheadE y e = false := by
                    rcases hg : own.getLast? with _ | y
                    · rw [hg] at hrest; cases hrest
                    · rw [hg] at hrest; exact ⟨y, rfl, by simpa using hrest⟩
                  have hop : 0 < own.length := by
                    rcases own with _ | ⟨a, own⟩
                    · cases hy
                    · simp
                  have hon : (0 : Int) < (own.length : Nat) := by omega
                  have hyl : own[own.length - 1]? = some y := by rw [← List.getLast?_eq_getElem?]; exact hy
                  obtain ⟨ad, rfl, hab, acell⟩ := (Reads.of_own hO1).2 hop
                  obtain ⟨bb, oo, rfl⟩ := plain_cell (acell 0 _ (entsC_at own 0 own[0] (List.getElem?_eq_getElem (by omega))).1)
                  obtain ⟨q0, q1, q2, q3⟩ := entsC_at own _ _ hyl
                  replace q0 := acell _ _ q0
                  replace q1 := acell _ _ q1
                  replace q2 := acell _ _ q2
                  replace q3 := acell _ _ q3
                  rw [add_off] at q0 q1 q2 q3
                  rw [← Nat.add_assoc] at q1 q2 q3
                  have hab' : bb < w1.heap.size := hab
                  have hi7 : ((own.length : Nat) : Int) - 1 = ((own.length - 1 : Nat) : Int) := by omega
                  have hi7' : own.length - 1 < own.length := by omega
                  have hcon := fun W => RAhead_any y e W
                  unfold entC at hcon
                  rw [hah] at hcon
                  generalize hln : own.length - 1 = ln at *
                  replace hln := Lib.hid hln
                  replace hcon := Lib.hid hcon
                  replace hO1 := Lib.hid hO1
                  clear hrest hsx hbad hk0 hs0 acell hy hyl hah h
                  rw [hg, hvn] at hcon
                  go_wp2_with fail
                  have hxc := @Ext.cell
                  refine wp_region_ext (by kernel_rfl) (by kernel_rfl) ?_
                  repeat (go_big_quiet_step ((first | (go_at_call 49; exact Calls.ext (hcon.out _)))))
                  refine wpQuiet_nil ?_
                  clear hxc
                  intro wx hwx
                  obtain ⟨x, hx⟩ := hwx
                  have hb := x.below
                  rw [← hx] at hb
                  clear hx x
                  go_wp2_with fail
                  go_ret2
                  exact ⟨rfl, hbe.trans (hb.mono hbe.size)⟩
end Go.Proofs.YtfnlponoakhegaaDoor
