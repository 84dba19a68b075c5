/- TableBuilds: the law's walk. -/
import Derived.Test.YtfnlponoakhegaaDoorB29
import Derived.Test.YtfnlponoakhegaaDoorTAwWJ
import Derived.Deep.DeepCutAuto
namespace Go.Proofs.YtfnlponoakhegaaDoor
open Go.RowKit
set_option linter.unusedVariables false
set_option linter.unusedSimpArgs false
theorem ent_le_sz {l : List Ent} {e : Ent} (h : e ∈ l) : e.key.length + e.value.length ≤ entSz l := by
  induction l with
  | nil => cases h
  | cons x l ih =>
    unfold entSz at *
    simp only [List.map_cons, List.sum_cons]
    rcases List.mem_cons.1 h with rfl | h
    · omega
    · have := ih h
      omega
set_option maxRecDepth 100000 in
set_option maxHeartbeats 40000000 in
theorem Builds_any (n : Nat) (lv : Int) (A : Option Addr) (l : List ActE) (cap : Nat) (w : World) (hG : Gl w) (hr : Reads w w.heap.size 5 A l.length (actsC l)) (hl : l.length ≤ 9223372036854775807) (hs : ∀ a ∈ l, ActOk a) :
    Calls Tryd.prog 4 #[.int .u64 (n : Nat), .int .i64 lv, .slice A l.length cap] w fun e w' => e = .returned (.bool true) ∧ Below w.heap.size w w' := by
  have hgr := Great_any A l cap w hr hl (fun a ha => ⟨(hs a ha).2.1, (hs a ha).2.2.1⟩)
  have hawk := Lib.hid awake_any
  have hGl := hG.lt
  cases hgp : greatP (l.map (·.e))
  case true =>
    rw [hgp] at hgr
    replace hgr := Lib.hid hgr
    replace hgp := Lib.hid hgp
    go_enter Tryd.func4, Tryd.ntmps4
    go_wp2_with fail
    refine hgr.out.mono ?_
    rintro e w1 ⟨rfl, hb1⟩
    go_wp2_with fail
    refine (hawk.out w1 (hG.below hb1 hGl)).mono ?_
    rintro e w2 ⟨rfl, hb2⟩
    go_wp2_with fail
    go_ret
    exact ⟨rfl, hb1.trans (hb2.mono hb1.size)⟩
  case false =>
    rw [hgp] at hgr
    obtain ⟨hl100, hsz⟩ := greatP_not hgp
    rw [List.length_map] at hl100
    have hsm : ∀ a ∈ l, a.e.key.length ≤ 8000 ∧ a.e.value.length ≤ 8000 := by
      intro a ha
      have h1 := ent_le_sz (List.mem_map_of_mem (f := fun x : ActE => x.e) ha)
      omega
    replace hgr := Lib.hid hgr
    replace hgp := Lib.hid hgp
    go_enter Tryd.func4, Tryd.ntmps4
    go_wp2_with fail
    refine hgr.out.mono ?_
    rintro e w1 ⟨rfl, hb1⟩
    have hnew := Lib.hid (New_any n lv w1)
    have hz1 := hb1.size
    have hG1 := hG.below hb1 hGl
    have hr1 := (hr.below hb1).more hz1
    go_wp2_with fail
    refine hnew.out.mono ?_
    rintro e w2 ⟨⟨gb, rfl, hB2⟩, hb2⟩
    have hz2 := hb2.size
    have hgb := hB2.blk.lt
    have hb3 : Below w2.heap.size w2 (w2.alloc (.cells #[.int .u64 (n : Nat), .int .i64 lv, .slice none 0 0, .bool false] 50)) := (Below.refl _ _).alloc (Nat.le_refl _) _
    have hS0 := Duo.new (w0 := w1) (hB2.below hb3) (hb2.trans (hb3.mono hz2)) (Blk.new w2 50 #[.int .u64 (n : Nat), .int .i64 lv, .slice none 0 0, .bool false]) hz2 (by omega)
    have hS : LSt w1 (w2.alloc (.cells #[.int .u64 (n : Nat), .int .i64 lv, .slice none 0 0, .bool false] 50)) n lv gb w2.heap.size 0 := ⟨[], [], _, (fun e he => by cases he), Nat.le_refl _, rfl, .inl hS0⟩
    generalize hgd : w2.heap.size = gd at *
    clear hnew hB2 hS0
    go_wp2_with fail
    generalize hw3 : w2.alloc (.cells #[.int .u64 (n : Nat), .int .i64 lv, .slice none 0 0, .bool false] 50) = w3 at *
    replace hw3 := Lib.hid hw3
    replace hgd := Lib.hid hgd
    clear hb3 hb2
    go_loopw [9] (fun iv wr => ∃ i, i ≤ l.length ∧ iv = .int .i64 (i : Nat) ∧ LSt w1 wr n lv gb gd i) (fun iv _ => l.length - (intOf iv).toNat)
    case atStart => exact ⟨0, Nat.zero_le _, rfl, hS⟩
    case round =>
      obtain ⟨i, hi, rfl, hL⟩ := hrel
      have hbr := hL.bel
      have hzr := hbr.size
      by_cases hil : i < l.length
      · have hil' : ((i : Nat) : Int) < (l.length : Nat) := by omega
        have hx := List.getElem?_eq_getElem hil
        obtain ⟨s1, s2⟩ := hsm _ (List.getElem_mem hil)
        obtain ⟨o1, o2, o3, o4⟩ := hs _ (List.getElem_mem hil)
        obtain ⟨ad, rfl, hab, hcell⟩ := (hr1.below hbr).2 (by omega)
        obtain ⟨bb, oo, rfl⟩ := plain_cell (hcell 0 _ (actsC_at l 0 l[0] (List.getElem?_eq_getElem (by omega))).1)
        obtain ⟨q0, q1, q2, q3, q4⟩ := actsC_at l i _ hx
        replace q0 := hcell _ _ q0
        replace q1 := hcell _ _ q1
        replace q2 := hcell _ _ q2
        replace q3 := hcell _ _ q3
        replace q4 := hcell _ _ q4
        rw [add_off] at q0 q1 q2 q3 q4
        rw [← Nat.add_assoc] at q1 q2 q3 q4
        have hab' : bb < wr.heap.size := Nat.lt_of_lt_of_le hab hzr
        clear hcell hx
        generalize l[i] = a at *
        obtain ⟨ad, ⟨ek, ev, es, eg⟩⟩ := a
        simp only at q0 q1 q2 q3 q4 s1 s2 o1 o2 o3 o4
        have hX := Blk.new wr 33 #[.string (bs ek), .string (bs ev), .int .u64 (es : Nat), .bool eg]
        have hbq : Below wr.heap.size wr (wr.alloc (.cells #[.string (bs ek), .string (bs ev), .int .u64 (es : Nat), .bool eg] 33)) := (Below.refl _ _).alloc (Nat.le_refl _) _
        go_upto_region 9 with fail
        generalize hwq : wr.alloc (.cells #[.string (bs ek), .string (bs ev), .int .u64 (es : Nat), .bool eg] 33) = wq at *
        replace hwq := Lib.hid hwq
        have hbl := hbq.size
        have hXl := hX.lt
        have x0 : wq.cell? ⟨wr.heap.size, 0, none⟩ = some (.string (bs ek)) := hX.cell 0
        have x2 : wq.cell? ⟨wr.heap.size, 2, none⟩ = some (.int .u64 (es : Nat)) := hX.cell 2
        have hGq := (hG1.below hbr hG1.lt).below hbq (hG1.below hbr hG1.lt).lt
        have hin1 : ∀ W, Below wq.heap.size wq W → Calls Tryd.prog 16 #[.string (bs ek), .int .u64 (es : Nat)] W fun e w' => e = .returned (.string (bs (internalL ek es))) ∧ Below W.heap.size W w' := fun W hb => by
          have := Internal_any (bs ek) es W (hGq.below hb hGq.lt) (by rw [bs_size]; omega) o4
          rw [bs_data] at this
          exact this
        have hin2 := fun W => RInternal_any ek es W (by omega) o4
        generalize internalL ek es = ik at *
        replace hin1 := Lib.hid hin1
        replace hin2 := Lib.hid hin2
        have y0 : wq.cell? ⟨bb, oo + i * 5, none⟩ = some (.int .u8 (ad : Nat)) := (hbq.cell (p := ⟨bb, oo + i * 5, none⟩) hab').trans q0
        have hxc := @Ext.cell
        refine wp_region_ext (by kernel_rfl) (by kernel_rfl) ?_
        repeat (go_big_quiet_step ((first | (go_at_call 16; exact Calls.ext (hin1.out _ (Ext.below _))) | (go_at_call 19; exact Calls.ext (hin2.out _)))))
        refine wpQuiet_nil ?_
        clear hxc
        intro wx hwx
        obtain ⟨x, hx⟩ := hwx
        have hb := x.below
        rw [← hx] at hb
        clear hx x
        have hbx := hbq.trans (hb.mono hbl)
        have hXx := hX.below hb hXl
        have hxl := hXx.lt
        have yx : wx.cell? ⟨bb, oo + i * 5, none⟩ = some (.int .u8 (ad : Nat)) := (hb.cell (p := ⟨bb, oo + i * 5, none⟩) (by show bb < wq.heap.size; omega)).trans y0
        have z0 : wx.cell? ⟨wr.heap.size, 0, none⟩ = some (.string (bs ek)) := hXx.cell 0
        have z1 : wx.cell? ⟨wr.heap.size, 1, none⟩ = some (.string (bs ev)) := hXx.cell 1
        have z2 : wx.cell? ⟨wr.heap.size, 2, none⟩ = some (.int .u64 (es : Nat)) := hXx.cell 2
        have z3 : wx.cell? ⟨wr.heap.size, 3, none⟩ = some (.bool eg) := hXx.cell 3
        clear hin1 hin2 x0 x2 y0 q0 q1 q2 q3 q4
        by_cases hd0 : ad = 0
        · subst hd0
          obtain ⟨s, k, hadd⟩ := hL.add hbx hG1 (by omega) ⟨ek, ev, es, eg⟩ (by simp only []; omega) (by simp only []; omega) o4
          unfold entC at hadd
          simp only at hadd
          replace hadd := Lib.hid hadd
          go_wp2_with fail
          refine hadd.out.mono ?_
          rintro r w4 ⟨rfl, hkp, hz4, hdoc⟩
          have hX4 : Blk w4 wr.heap.size 33 _ := (hkp wr.heap.size (Nat.le_refl _) hxl).trans hXx
          have v0 : w4.cell? ⟨wr.heap.size, 0, none⟩ = some (.string (bs ek)) := hX4.cell 0
          have v1 : w4.cell? ⟨wr.heap.size, 1, none⟩ = some (.string (bs ev)) := hX4.cell 1
          have v2 : w4.cell? ⟨wr.heap.size, 2, none⟩ = some (.int .u64 (es : Nat)) := hX4.cell 2
          have v3 : w4.cell? ⟨wr.heap.size, 3, none⟩ = some (.bool eg) := hX4.cell 3
          replace hdoc := Lib.hid hdoc
          clear hadd hkp z0 z1 z2 z3
          go_wp2_with fail
          refine hdoc.out.mono ?_
          rintro r w5 ⟨rfl, hL5⟩
          go_wp2_with fail
          exact ⟨⟨i + 1, by omega, by go_num, hL5⟩, by first | omega | (simp only [intOf]; omega)⟩
        · have hd0b : (((ad : Nat) : Int) == 0) = false := by simpa using hd0
          by_cases hd1 : ad = 1
          · subst hd1
            obtain ⟨s, t, k, hfin⟩ := (hL.below hbx).fin hG1 (by omega)
            unfold tiC strV at hfin
            replace hfin := Lib.hid hfin
            go_wp2_with fail
            refine hfin.out.mono ?_
            rintro r w4 ⟨rfl, hdoc⟩
            replace hdoc := Lib.hid hdoc
            go_upto_region 19 with fail
            have hT4 := Blk.new w4 26 #[.int .u64 (t.n : Nat), .int .i64 t.level, .int .i64 (t.count : Nat), .int .i64 (t.size : Nat), .string (bs t.first), .string (bs t.last), .int .u64 (t.least : Nat), .int .u64 (t.most : Nat)]
            have hb4 : Below w4.heap.size w4 (w4.alloc (.cells #[.int .u64 (t.n : Nat), .int .i64 t.level, .int .i64 (t.count : Nat), .int .i64 (t.size : Nat), .string (bs t.first), .string (bs t.last), .int .u64 (t.least : Nat), .int .u64 (t.most : Nat)] 26)) := (Below.refl _ _).alloc (Nat.le_refl _) _
            have hcall := Lib.hid (hdoc.out _ hb4)
            generalize hw5 : w4.alloc (.cells #[.int .u64 (t.n : Nat), .int .i64 t.level, .int .i64 (t.count : Nat), .int .i64 (t.size : Nat), .string (bs t.first), .string (bs t.last), .int .u64 (t.least : Nat), .int .u64 (t.most : Nat)] 26) = w5 at *
            replace hw5 := Lib.hid hw5
            clear hdoc hb4
            go_wp2_with fail
            refine hcall.out.mono ?_
            rintro r w6 ⟨rfl, hL6, hkp⟩
            have hT6 : Blk w6 w4.heap.size 26 #[.int .u64 (t.n : Nat), .int .i64 t.level, .int .i64 (t.count : Nat), .int .i64 (t.size : Nat), .string (bs t.first), .string (bs t.last), .int .u64 (t.least : Nat), .int .u64 (t.most : Nat)] := (hkp w4.heap.size (Nat.le_refl _) hT4.lt).trans hT4
            have hl6 := hT6.lt
            have y0 : w6.cell? ⟨w4.heap.size, 0, none⟩ = some (.int .u64 (t.n : Nat)) := hT6.cell 0
            have y1 : w6.cell? ⟨w4.heap.size, 1, none⟩ = some (.int .i64 t.level) := hT6.cell 1
            have y2 : w6.cell? ⟨w4.heap.size, 2, none⟩ = some (.int .i64 (t.count : Nat)) := hT6.cell 2
            have y3 : w6.cell? ⟨w4.heap.size, 3, none⟩ = some (.int .i64 (t.size : Nat)) := hT6.cell 3
            have y4 : w6.cell? ⟨w4.heap.size, 4, none⟩ = some (.string (bs t.first)) := hT6.cell 4
            have y5 : w6.cell? ⟨w4.heap.size, 5, none⟩ = some (.string (bs t.last)) := hT6.cell 5
            have y6 : w6.cell? ⟨w4.heap.size, 6, none⟩ = some (.int .u64 (t.least : Nat)) := hT6.cell 6
            have y7 : w6.cell? ⟨w4.heap.size, 7, none⟩ = some (.int .u64 (t.most : Nat)) := hT6.cell 7
            have hL7 := hL6.below ((Below.refl w6.heap.size w6).alloc (Nat.le_refl _) (.cells #[.int .u64 (t.n : Nat), .int .i64 t.level, .int .i64 (t.count : Nat), .int .i64 (t.size : Nat), .string (bs t.first), .string (bs t.last), .int .u64 (t.least : Nat), .int .u64 (t.most : Nat)] 26))
            replace hL7 := Lib.hid hL7
            clear hT6 hT4 hcall hkp hL6
            go_wp2_with fail
            exact ⟨⟨i + 1, by omega, by go_num, hL7.out⟩, by first | omega | (simp only [intOf]; omega)⟩
          · have hd1b : (((ad : Nat) : Int) == 1) = false := by
              have : ¬ ((ad : Nat) : Int) = 1 := by omega
              simpa using this
            have hL5 := (hL.below hbx).next
            go_wp2_with fail
            exact ⟨⟨i + 1, by omega, by go_num, hL5⟩, by first | omega | (simp only [intOf]; omega)⟩
      · obtain rfl : i = l.length := by omega
        have hil' : ¬ ((l.length : Nat) : Int) < (l.length : Nat) := by omega
        have hGr := hG1.below hbr hG1.lt
        go_wp2_with fail
        refine (hawk.out wr hGr).mono ?_
        rintro e w9 ⟨rfl, hb9⟩
        go_wp2_with fail
        go_ret
        exact ⟨rfl, hb1.trans ((hbr.trans (hb9.mono hzr)).mono hz1)⟩
end Go.Proofs.YtfnlponoakhegaaDoor
