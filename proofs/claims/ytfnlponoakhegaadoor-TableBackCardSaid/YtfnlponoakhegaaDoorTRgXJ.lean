/- TableRange: the walk. -/
import Derived.Test.YtfnlponoakhegaaDoorTRgWJ
import Derived.Deep.DeepCutAuto
namespace Go.Proofs.YtfnlponoakhegaaDoor
open Go.RowKit
set_option linter.unusedVariables false
set_option linter.unusedSimpArgs false
theorem all_in (own : List Ent) : own.filter (inP [] []) = own := by
  rw [List.filter_eq_self]
  intro e _
  unfold inP keepP
  cases e.key <;> rfl
set_option maxRecDepth 100000 in
set_option maxHeartbeats 4000000 in
theorem TRange_any (A : Option Addr) (l : List Ent) (cap : Nat) (from_ too : ByteArray) (w : World) (hG : Gl w) (hr : Reads w w.heap.size 4 A l.length (entsC l)) (hl : l.length ≤ 9223372036854775807) (hs : ∀ e ∈ l, e.key.length ≤ 9223372036854775807 ∧ e.value.length ≤ 9223372036854775807 ∧ e.seq < 18446744073709551616) :
    Calls Tryd.prog 6 #[.slice A l.length cap, .string from_, .string too] w fun e w' => e = .returned (.bool true) ∧ Below w.heap.size w w' := by
  have hgr := GreatE_any A l cap w hr hl (fun e he => ⟨(hs e he).1, (hs e he).2.1⟩)
  have hawk := Lib.hid awake_any
  have hGl := hG.lt
  cases hgp : greatP l
  · rw [hgp] at hgr
    obtain ⟨hl100, hsz⟩ := greatP_not hgp
    replace hgr := Lib.hid hgr
    replace hgp := Lib.hid hgp
    go_enter Tryd.func6, Tryd.ntmps6
    go_wp2_with fail
    refine hgr.out.mono ?_
    rintro e w1 ⟨rfl, hb1⟩
    have hz1 := hb1.size
    go_upto_if 22 with fail
    go_cut [1] (fun fv wc => ∃ fr : L, fr.length ≤ 200 ∧ fv = .string (bs fr) ∧ wc = w1)
    case first =>
      by_cases h2 : 200 < from_.size
      · have h2' : (200 : Int) < (from_.size : Nat) := by omega
        have hx : from_.extract 0 200 = bs (from_.data.toList.take 200) := by rw [ext_bs]; simp
        replace hx := Lib.hid hx
        go_wp2_with fail
        go_meet
        case rel => exact ⟨from_.data.toList.take 200, by simp; omega, by rw [hx.out], rfl⟩
      · have h2' : ¬ (200 : Int) < (from_.size : Nat) := by omega
        go_wp2_with fail
        go_meet
        case rel => exact ⟨from_.data.toList, by rw [dlen]; omega, by rw [bs_of], rfl⟩
    case rest =>
      obtain ⟨fr, hfr, rfl, rfl⟩ := hcut
      go_upto_if 27 with fail
      go_cut [2] (fun fv wx => ∃ tt : L, tt.length ≤ 200 ∧ fv = .string (bs tt) ∧ wx = wc)
      case first =>
        by_cases h2 : 200 < too.size
        · have h2' : (200 : Int) < (too.size : Nat) := by omega
          have hx : too.extract 0 200 = bs (too.data.toList.take 200) := by rw [ext_bs]; simp
          replace hx := Lib.hid hx
          go_wp2_with fail
          go_meet
          case rel => exact ⟨too.data.toList.take 200, by simp; omega, by rw [hx.out], rfl⟩
        · have h2' : ¬ (200 : Int) < (too.size : Nat) := by omega
          go_wp2_with fail
          go_meet
          case rel => exact ⟨too.data.toList, by rw [dlen]; omega, by rw [bs_of], rfl⟩
      case rest =>
        obtain ⟨tt, htt, rfl, rfl⟩ := hcut
        have htk := taken_any A l cap wc (hG.below hb1 hGl) ((hr.below hb1).more hz1) (by omega) (fun e he => (hs e he).2.2)
        have hop := @opened 3 1 l (by omega)
        have hX := runX_I 3 1 l
        have hfn := @file_nil 3 1 l
        unfold fileX at hfn
        obtain ⟨r, hrr⟩ : ∃ r, r = runX 3 1 l := ⟨_, rfl⟩
        rw [← hrr] at htk hop hX hfn
        obtain ⟨⟨bl, cu, h6, h7⟩, hrun, hlen, hsub⟩ := hX
        have hent : entSz r.2.2 ≤ 8000 := Nat.le_trans (entSz_sub hsub) hsz
        have hfl := h6.file_len (by omega) hent
        obtain ⟨S, hS⟩ : ∃ S, S = r.2.1 ++ r.1.outL := ⟨_, rfl⟩
        rw [← hS] at htk hop hfl hfn
        replace hS := Lib.hid hS
        obtain ⟨x, hxx⟩ : ∃ x, x = finT r := ⟨_, rfl⟩
        rw [← hxx] at htk
        replace hxx := Lib.hid hxx
        replace hrr := Lib.hid hrr
        clear h6 h7 hrun
        have hbs : (bs S).size = S.length := bs_size _
        generalize finE r = fe at *
        obtain ⟨own, hown⟩ : ∃ own, own = r.2.2 := ⟨_, rfl⟩
        rw [← hown] at htk hop hfn hlen
        replace hown := Lib.hid hown
        by_cases hne : own = []
        · have hS0 : S = [] := hfn hne
          clear hop hfn
          subst hne
          replace htk := Lib.hid htk
          go_wp2_with fail
          refine htk.out.mono ?_
          rintro e w2 ⟨v, rfl, hO2, hb2⟩
          have hb02 := hb1.trans (hb2.mono hz1)
          obtain ⟨Ao, co, rfl⟩ := hO2.form
          have hal : Below w.heap.size w (w2.alloc (.cells (tiC x) 26)) := hb02.alloc hb02.size _
          have hopn := TOpen_any (bs S) (w2.alloc (.cells (tiC x) 26)) (by rw [bs_size]; exact hfl) (hG.below hal hGl)
          rw [bs_data, hS0, show openT [] = none from rfl] at hopn
          replace hopn := Lib.hid hopn
          unfold tiC strV at hal hopn ⊢
          rw [hS0]
          go_wp2_with fail
          refine hopn.out.mono ?_
          rintro e w3 ⟨hOp, hb3⟩
          have hOp2 : e = .returned (.tuple #[.pointer none, .int .i64 8]) := hOp
          subst hOp2
          have hb03 := hal.trans (hb3.mono hal.size)
          have haw := Lib.hid (hawk.out _ (hG.below hb03 hGl))
          clear hOp
          go_wp2_with fail
          refine haw.out.mono ?_
          rintro e w4 ⟨rfl, hb4⟩
          go_wp2_with fail
          go_ret
          exact ⟨rfl, hb03.trans (hb4.mono hb03.size)⟩
        · obtain ⟨bls, hop1, hRI⟩ := hop hne
          have hP : RgP own (filterL r.1.fin.keys) fr tt (ixOf 0 bls) bls := ⟨fun a b => range_run hRI a b, (ixOf_len bls 0).symm, hRI.may_len (by omega), fun e he => hRI.may he⟩
          clear hop hfn hRI
          generalize filterL r.1.fin.keys = f at *
          generalize ixOf 0 bls = ix at *
          have hol : own.length ≠ 0 := fun e => hne (List.eq_nil_of_length_eq_zero e)
          have holi : ¬ ((own.length : Nat) : Int) = 0 := by omega
          have holb : (((own.length : Nat) : Int) == 0) = false := by simpa using holi
          replace htk := Lib.hid htk
          go_wp2_with fail
          refine htk.out.mono ?_
          rintro e w2 ⟨v, rfl, hO2, hb2⟩
          have hb02 := hb1.trans (hb2.mono hz1)
          obtain ⟨Ao, co, rfl⟩ := hO2.form
          have hal : Below w.heap.size w (w2.alloc (.cells (tiC x) 26)) := hb02.alloc hb02.size _
          have hO3 : OwnE (w2.alloc (.cells (tiC x) 26)) wc.heap.size (.slice Ao own.length co) own := hO2.below ((Below.refl _ _).alloc (Nat.le_refl _) _)
          have hopn := TOpen_any (bs S) (w2.alloc (.cells (tiC x) 26)) (by rw [bs_size]; exact hfl) (hG.below hal hGl)
          rw [bs_data, hop1] at hopn
          replace hopn := Lib.hid hopn
          unfold tiC strV at hal hopn hO3 ⊢
          go_wp2_with fail
          refine hopn.out.mono ?_
          rintro e w4 ⟨⟨gt, rfl, hTF⟩, hb4⟩
          have hO4 := hO3.below hb4
          have hb04 := hal.trans (hb4.mono hal.size)
          have hTT := hTF.at_
          simp only at hTT
          have hG4 := hG.below hb04 hGl
          have hrd4 : Reads w4 w4.heap.size 4 Ao own.length (entsC own) := Reads.of_own hO4
          clear hopn hb4 hal hO2 hO3 hTF htk hop1
          have hrg := Lib.hid (Range_any hTT hP.bl hG4 (bs fr) (bs tt) (by rw [bs_size]; omega))
          go_wp2_with fail
          refine hrg.out.mono ?_
          rintro e w5 ⟨v5, rfl, hO5, hb5⟩
          rw [bs_data, bs_data, hP.rng] at hO5
          obtain ⟨A5, c5, rfl, hgot⟩ := got_of hO5
          clear hrg
          have hgl : (own.filter (inP fr tt)).length ≤ own.length := List.length_filter_le _ _
          generalize hG5 : own.filter (inP fr tt) = got at *
          go_wp2_with fail
          go_loopw [13, 15] (fun kv iv wr => ∃ i, i ≤ own.length ∧ iv = .int .i64 (i : Nat) ∧ kv = .int .i64 (((own.take i).filter (inP fr tt)).length : Nat) ∧ (got ≠ [] → ∃ gg, A5 = some ⟨gg, 0, none⟩ ∧ w4.heap.size ≤ gg ∧ GotR wr gg ((own.take i).filter (inP fr tt)).length got) ∧ Below w4.heap.size w4 wr) (fun _ iv _ => own.length - (intOf iv).toNat)
          case atStart => exact ⟨0, Nat.zero_le _, rfl, rfl, hgot, hb5⟩
          case round =>
            obtain ⟨i, hi, rfl, rfl, hgr2, hbr⟩ := hrel
            have hzr := hbr.size
            by_cases hil : i < own.length
            · have hil' : ((i : Nat) : Int) < (own.length : Nat) := by omega
              have hx := List.getElem?_eq_getElem hil
              have hst := filter_step (p := inP fr tt) hx
              have hfa := @filter_at (inP fr tt) own i _ hx
              rw [hG5] at hfa
              obtain ⟨ad, rfl, hab, acell⟩ := (hrd4.below hbr).2 (by omega)
              obtain ⟨bb, oo, rfl⟩ := plain_cell (acell 0 _ (entsC_at own 0 own[0] (List.getElem?_eq_getElem (by omega))).1)
              obtain ⟨q0, q1, q2, q3⟩ := entsC_at own i _ hx
              replace q0 := acell _ _ q0
              replace q1 := acell _ _ q1
              replace q2 := acell _ _ q2
              replace q3 := acell _ _ q3
              rw [add_off] at q0 q1 q2 q3
              rw [← Nat.add_assoc] at q1 q2 q3
              have hab' : bb < wr.heap.size := Nat.lt_of_lt_of_le hab hzr
              clear acell
              replace hx := Lib.hid hx
              generalize own[i] = eo at *
              generalize hkk : ((own.take i).filter (inP fr tt)).length = k at *
              replace hkk := Lib.hid hkk
              by_cases hless : Op.bytesLess (bs eo.key).toList (bs fr).toList = true
              · have hin : inP fr tt eo = false := by
                  unfold inP lessL
                  rw [bs_toList, bs_toList] at hless
                  rw [hless]
                  rfl
                rw [hin] at hst
                replace hst := Lib.hid hst
                replace hgr2 := Lib.hid hgr2
                clear hfa
                go_wp2_with fail
                refine ⟨⟨i + 1, by omega, by go_num, ?_, ?_, hbr⟩, by first | omega | (simp only [intOf]; omega)⟩
                · rw [hst.out]; rfl
                · rw [hst.out]; exact hgr2.out
              · have hlessF : Op.bytesLess (bs eo.key).toList (bs fr).toList = false := by simpa using hless
                have hlL : lessL eo.key fr = false := by
                  unfold lessL
                  rw [bs_toList, bs_toList] at hlessF
                  exact hlessF
                clear hless
                by_cases hskip : tt ≠ [] ∧ lessL eo.key tt = false
                · obtain ⟨ht0, htl⟩ := hskip
                  have hin : inP fr tt eo = false := by
                    unfold inP keepP
                    rw [htl, Bool.or_false]
                    simp [ht0]
                  rw [hin] at hst
                  have hte : ¬ (bs tt).toList = [] := by rw [bs_toList]; exact ht0
                  have hem : (bs tt).toList.isEmpty = false := by rw [bs_toList]; cases tt with
                    | nil => exact absurd rfl ht0
                    | cons a l => rfl
                  have hl2 : Op.bytesLess (bs eo.key).toList (bs tt).toList = false := by rw [bs_toList, bs_toList]; exact htl
                  replace hst := Lib.hid hst
                  replace hgr2 := Lib.hid hgr2
                  replace hin := Lib.hid hin
                  replace htl := Lib.hid htl
                  replace hlL := Lib.hid hlL
                  clear hfa
                  go_wp2_with fail
                  refine ⟨⟨i + 1, by omega, by go_num, ?_, ?_, hbr⟩, by first | omega | (simp only [intOf]; omega)⟩
                  · rw [hst.out]; rfl
                  · rw [hst.out]; exact hgr2.out
                · have hin : inP fr tt eo = true := by
                    unfold inP keepP
                    rw [hlL]
                    by_cases ht0 : tt = []
                    · simp [ht0]
                    · have : lessL eo.key tt = true := by
                        rcases hq : lessL eo.key tt with _ | _
                        · exact absurd ⟨ht0, hq⟩ hskip
                        · rfl
                      simp [this]
                  rw [hin] at hst
                  have hfa2 := hfa hin
                  have hkl : k < got.length := (List.getElem?_eq_some_iff.1 hfa2).1
                  obtain ⟨gg, rfl, hgB, hGR⟩ := hgr2 (by rintro rfl; simp at hkl)
                  obtain ⟨e0, e1, e2, e3⟩ := entsC_at got k eo hfa2
                  obtain ⟨g0, gf0, gl⟩ := hGR.cell (by omega) e0
                  obtain ⟨g1, _, _⟩ := hGR.cell (by omega) e1
                  obtain ⟨g2, _, _⟩ := hGR.cell (by omega) e2
                  obtain ⟨g3, _, _⟩ := hGR.cell (by omega) e3
                  have hki : ¬ ((got.length : Nat) : Int) ≤ (k : Nat) := by omega
                  have hkd : decide (((got.length : Nat) : Int) ≤ (k : Nat)) = false := by simpa using hki
                  have hkd2 : decide (got.length ≤ k) = false := by simp; omega
                  replace hst := Lib.hid hst
                  replace hin := Lib.hid hin
                  replace hlL := Lib.hid hlL
                  replace hGR := Lib.hid hGR
                  replace hfa2 := Lib.hid hfa2
                  have hkli : ((k : Nat) : Int) < (got.length : Nat) := by omega
                  clear hfa hgr2 e0 e1 e2 e3 hgot
                  by_cases ht0 : tt = []
                  · have hte : (bs tt).toList = [] := by rw [bs_toList]; exact ht0
                    have hem : (bs tt).toList.isEmpty = true := by rw [hte]; rfl
                    replace ht0 := Lib.hid ht0
                    replace hskip := Lib.hid hskip
                    go_wp2_with fail
                    have hxc := @Ext.cell
                    refine wp_region_ext (by kernel_rfl) (by kernel_rfl) ?_
                    repeat (go_big_quiet_step ((first | fail)))
                    refine wpQuiet_nil ?_
                    clear hxc
                    intro wx hwx
                    obtain ⟨x, hx⟩ := hwx
                    have hb := x.below
                    rw [← hx] at hb
                    clear hx x
                    have hGx := hGR.out.below hb
                    have hbx := hbr.trans (hb.mono hzr)
                    have gx0 := (hb.cell (p := ⟨gg, k * 4, none⟩) gl).trans g0
                    have gxf := (hb.frozen (p := ⟨gg, k * 4, none⟩) gl).trans gf0
                    have gxl : gg < wx.heap.size := Nat.lt_of_lt_of_le gl hb.size
                    clear g0 g1 g2 g3 gf0 q0 q1 q2 q3
                    have hGs := hGx.set (.string ⟨#[111, 116, 104, 101, 114]⟩)
                    have hbs3 := hbx.setCell (p := ⟨gg, k * 4, none⟩) hgB (.string ⟨#[111, 116, 104, 101, 114]⟩)
                    replace hGs := Lib.hid hGs
                    replace hbs3 := Lib.hid hbs3
                    go_wp2_with fail
                    refine ⟨⟨i + 1, by omega, by go_num, ?_, fun _ => ⟨gg, rfl, hgB, ?_⟩, hbs3.out⟩, by first | omega | (simp only [intOf]; omega)⟩
                    · rw [hst.out]; rfl
                    · rw [hst.out]; exact hGs.out
                  · have htl : lessL eo.key tt = true := by
                      rcases hq : lessL eo.key tt with _ | _
                      · exact absurd ⟨ht0, hq⟩ hskip
                      · rfl
                    have hte : ¬ (bs tt).toList = [] := by rw [bs_toList]; exact ht0
                    have hem : (bs tt).toList.isEmpty = false := by rw [bs_toList]; cases tt with
                      | nil => exact absurd rfl ht0
                      | cons a l => rfl
                    have hl2 : Op.bytesLess (bs eo.key).toList (bs tt).toList = true := by rw [bs_toList, bs_toList]; exact htl
                    replace ht0 := Lib.hid ht0
                    replace htl := Lib.hid htl
                    replace hskip := Lib.hid hskip
                    go_wp2_with fail
                    have hxc := @Ext.cell
                    refine wp_region_ext (by kernel_rfl) (by kernel_rfl) ?_
                    repeat (go_big_quiet_step ((first | fail)))
                    refine wpQuiet_nil ?_
                    clear hxc
                    intro wx hwx
                    obtain ⟨x, hx⟩ := hwx
                    have hb := x.below
                    rw [← hx] at hb
                    clear hx x
                    have hGx := hGR.out.below hb
                    have hbx := hbr.trans (hb.mono hzr)
                    have gx0 := (hb.cell (p := ⟨gg, k * 4, none⟩) gl).trans g0
                    have gxf := (hb.frozen (p := ⟨gg, k * 4, none⟩) gl).trans gf0
                    have gxl : gg < wx.heap.size := Nat.lt_of_lt_of_le gl hb.size
                    clear g0 g1 g2 g3 gf0 q0 q1 q2 q3
                    have hGs := hGx.set (.string ⟨#[111, 116, 104, 101, 114]⟩)
                    have hbs3 := hbx.setCell (p := ⟨gg, k * 4, none⟩) hgB (.string ⟨#[111, 116, 104, 101, 114]⟩)
                    replace hGs := Lib.hid hGs
                    replace hbs3 := Lib.hid hbs3
                    go_wp2_with fail
                    refine ⟨⟨i + 1, by omega, by go_num, ?_, fun _ => ⟨gg, rfl, hgB, ?_⟩, hbs3.out⟩, by first | omega | (simp only [intOf]; omega)⟩
                    · rw [hst.out]; rfl
                    · rw [hst.out]; exact hGs.out
            · obtain rfl : i = own.length := by omega
              have hil' : ¬ ((own.length : Nat) : Int) < (own.length : Nat) := by omega
              rw [List.take_length, hG5]
              have hbr0 := hb04.trans (hbr.mono hb04.size)
              have hTTr := hTT.below hbr
              have hGr := hG4.below hbr hG4.lt
              have hr2 := Range_any hTTr hP.bl hGr (bs fr) (bs fr ++ ⟨#[0]⟩) (by rw [bs_size]; omega)
              rw [bs_data, show (bs fr ++ (⟨#[0]⟩ : ByteArray)).data.toList = fr ++ [0] from by rw [show (⟨#[0]⟩ : ByteArray) = bs [0] from rfl, bs_append, bs_data]] at hr2
              have hone := @RgP.one own f fr tt ix bls hP
              generalize rangeP ix bls fr (fr ++ [0]) = L1 at *
              replace hr2 := Lib.hid hr2
              have hsz1 : ¬ 9223372036854775807 < (bs fr).size + (⟨#[0]⟩ : ByteArray).size := by rw [bs_size]; show ¬ 9223372036854775807 < fr.length + 1; omega
              clear hgr2 hgot
              replace hG5 := Lib.hid hG5
              go_wp2_with fail
              refine hr2.out.mono ?_
              rintro e w6 ⟨v6, rfl, hO6, hb6⟩
              obtain ⟨A6, c6, rfl⟩ := hO6.form
              have hb06 := hbr0.trans (hb6.mono hbr0.size)
              have hTT6 := hTTr.below hb6
              have hO46 := (hO4.below hbr).below hb6
              have hmay := Lib.hid (tMay_any hTT6 hP.fl (bs fr) (by rw [bs_size]; omega))
              rw [bs_data] at hmay
              clear hr2 hO6 hb6
              cases hm : mayL f fr
              · rw [hm] at hmay
                have hL1 := hone hm
                have hL1i : ((L1.length : Nat) : Int) = 0 := by omega
                clear hone
                replace hL1 := Lib.hid hL1
                replace hm := Lib.hid hm
                go_wp2_with fail
                refine hmay.out.mono ?_
                rintro e w7 ⟨rfl, hb7⟩
                have hb07 := hb06.trans (hb7.mono hb06.size)
                have hTT7 := hTT6.below hb7
                have hO7 := hO46.below hb7
                have hal2 := All_any hTT7 hP.bl (hG.below hb07 hGl)
                rw [hP.rng, all_in] at hal2
                replace hal2 := Lib.hid hal2
                clear hmay
                go_wp2_with fail
                refine hal2.out.mono ?_
                rintro e w8 ⟨v8, rfl, hO8, hb8⟩
                obtain ⟨A8, c8, rfl⟩ := hO8.form
                have hb08 := hb07.trans (hb8.mono hb07.size)
                have hsm := Lib.hid (Same_refl A8 Ao own c8 co w8 (Reads.of_own hO8) (Reads.of_own (hO7.below hb8)) (by omega))
                clear hal2
                go_wp2_with fail
                refine hsm.out.mono ?_
                rintro e w9 ⟨rfl, hb9⟩
                have hb09 := hb08.trans (hb9.mono hb08.size)
                have haw := Lib.hid (hawk.out _ (hG.below hb09 hGl))
                clear hsm
                go_wp2_with fail
                refine haw.out.mono ?_
                rintro e wa ⟨rfl, hba⟩
                go_wp2_with fail
                go_ret
                exact ⟨rfl, hb09.trans (hba.mono hb09.size)⟩
              · rw [hm] at hmay
                clear hone
                replace hm := Lib.hid hm
                go_wp2_with fail
                refine hmay.out.mono ?_
                rintro e w7 ⟨rfl, hb7⟩
                have hb07 := hb06.trans (hb7.mono hb06.size)
                have hTT7 := hTT6.below hb7
                have hO7 := hO46.below hb7
                have hal2 := All_any hTT7 hP.bl (hG.below hb07 hGl)
                rw [hP.rng, all_in] at hal2
                replace hal2 := Lib.hid hal2
                clear hmay
                go_wp2_with fail
                refine hal2.out.mono ?_
                rintro e w8 ⟨v8, rfl, hO8, hb8⟩
                obtain ⟨A8, c8, rfl⟩ := hO8.form
                have hb08 := hb07.trans (hb8.mono hb07.size)
                have hsm := Lib.hid (Same_refl A8 Ao own c8 co w8 (Reads.of_own hO8) (Reads.of_own (hO7.below hb8)) (by omega))
                clear hal2
                go_wp2_with fail
                refine hsm.out.mono ?_
                rintro e w9 ⟨rfl, hb9⟩
                have hb09 := hb08.trans (hb9.mono hb08.size)
                have haw := Lib.hid (hawk.out _ (hG.below hb09 hGl))
                clear hsm
                go_wp2_with fail
                refine haw.out.mono ?_
                rintro e wa ⟨rfl, hba⟩
                go_wp2_with fail
                go_ret
                exact ⟨rfl, hb09.trans (hba.mono hb09.size)⟩
  · rw [hgp] at hgr
    replace hgr := Lib.hid hgr
    go_enter Tryd.func6, Tryd.ntmps6
    go_wp2_with fail
    refine hgr.out.mono ?_
    rintro e w1 ⟨rfl, hb1⟩
    go_wp2_with fail
    refine (hawk.out w1 (hG.below hb1 hGl)).mono ?_
    rintro e w2 ⟨rfl, hb2⟩
    go_wp2_with fail
    go_ret
    exact ⟨rfl, hb1.trans (hb2.mono hb1.size)⟩
end Go.Proofs.YtfnlponoakhegaaDoor
