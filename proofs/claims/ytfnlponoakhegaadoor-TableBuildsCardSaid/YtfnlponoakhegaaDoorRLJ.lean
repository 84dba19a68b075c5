/- The document's table: copyholdref12.Whole. -/
import Derived.Test.YtfnlponoakhegaaDoorB24
import Derived.Deep.DeepCutAuto
namespace Go.Proofs.YtfnlponoakhegaaDoor
open Go.RowKit
set_option linter.unusedVariables false
set_option linter.unusedSimpArgs false
/-- Two rows of texts that are owned, apart. -/
structure DSt (w wr : World) (v3 v4 : Value) (s3 s4 : List L) : Prop where
  o3 : OwnS wr w.heap.size v3 s3
  o4 : OwnS wr w.heap.size v4 s4
  bel : Below w.heap.size w wr
theorem DSt.below {w wr w' : World} {v3 v4 : Value} {s3 s4 : List L} (h : DSt w wr v3 v4 s3 s4) (hb : Below wr.heap.size wr w') : DSt w w' v3 v4 s3 s4 := ⟨h.o3.below hb, h.o4.below hb, h.bel.trans (hb.mono h.bel.size)⟩
theorem DSt.s7 {w wr w' : World} {v3 v4 v7 : Value} {s3 s4 : List L} {ob : Obj} {cur : List (L × L)} (h : DSt w wr v3 v4 s3 s4) (hO7 : OwnR wr w.heap.size v7 cur) (hg : (wr.alloc ob).grownBy w' v7.ownBlock) : DSt w w' v3 v4 s3 s4 := by
  have hk := grow_kept hg
  exact ⟨own_kept h.o3 hk (fun k e1 e2 => own_types h.o3 hO7 (by decide) k e1 e2), own_kept h.o4 hk (fun k e1 e2 => own_types h.o4 hO7 (by decide) k e1 e2), hk.below_of h.bel (fun k e => (own_lt hO7 k e).1)⟩
theorem RVar_two (b : Nat) (n m : Nat) (w : World) (h0 : w.cell? ⟨b, 0, none⟩ = some (.int .u64 (n : Nat))) (h1 : w.cell? ⟨b, 1, none⟩ = some (.int .u64 (m : Nat))) (hn : n ≤ 4611686018427387904) (hm : m ≤ 4611686018427387904) :
    Calls Tryd.prog 72 #[.slice (some ⟨b, 0, none⟩) 2 2] w fun e w' => e = .returned (.string (bs (varL [n, m]))) ∧ Below w.heap.size w w' :=
  RVar_any (some ⟨b, 0, none⟩) [n, m] 2 w ⟨rfl, fun _ => ⟨_, rfl, cell_lt h0, fun j u hu => by
    rw [add_off, Nat.zero_add]
    rcases j with _ | _ | j
    · injection hu with hu; subst hu; exact h0
    · injection hu with hu; subst hu; exact h1
    · cases hu⟩⟩ (by simp) (fun x hx => by simp at hx; omega)
theorem outs_take (al : List (List (L × L))) (i : Nat) : (outs (al.take i)).length ≤ (outs al).length := by
  have h : outs al = outs (al.take i) ++ outs (al.drop i) := by
    unfold outs
    rw [← List.flatten_append, ← List.map_append, List.take_append_drop]
  rw [h, List.length_append]
  omega
theorem outs_at {al : List (List (L × L))} {b : List (L × L)} (h : b ∈ al) : (outB b).length ≤ (outs al).length := by
  induction al with
  | nil => cases h
  | cons c al ih =>
    rw [outs_cons, List.length_append]
    rcases List.mem_cons.1 h with h | h
    · subst h; omega
    · have := ih h; omega
set_option maxRecDepth 100000 in
set_option maxHeartbeats 4000000 in
theorem RWhole_any (A : Option Addr) (l : List Ent) (cap : Nat) (w : World) (hr : Reads w w.heap.size 4 A l.length (entsC l)) (hl : l.length ≤ 1000) (hs : ∀ e ∈ l, e.key.length ≤ 64 ∧ e.value.length ≤ 512 ∧ e.seq < 18446744073709551616 ∧ (e.gone = true → e.value = [])) :
    Calls Tryd.prog 51 #[.slice A l.length cap] w fun e w' => e = .returned (.string (bs (wholeK l))) ∧ Below w.heap.size w w' := by
  obtain ⟨i0, hi0, hz0, hz1, hz2⟩ := info_parts row_info
  obtain ⟨j0, hj0, hy0, hy1, hy2⟩ := info_parts string_info
  have hblk := Lib.hid (RBlocks_any A l cap w hr hl hs)
  obtain ⟨ha1, ha2, ha3⟩ := allK_facts l hl (fun e he => ⟨(hs e he).1, (hs e he).2.1⟩)
  have hall : allK l = (blocksK l).1 ++ (if (blocksK l).2 = [] then [] else [(blocksK l).2]) := rfl
  have hcr : ∀ r ∈ (blocksK l).2, r.1.length ≤ 1048576 ∧ r.2.length ≤ 1048576 := by
    intro r hrm
    have : r ∈ l.map rowE := by rw [← (blocksK_rows l).1]; exact List.mem_append_right _ hrm
    obtain ⟨e, he, rfl⟩ := List.mem_map.1 this
    have := hs e he
    exact rowE_small this.1 this.2.1
  have hbl := (blocksK_rows l).2
  have hout : (outs (allK l)).length ≤ 700000 := by
    have h1 := outs_len_le (bls := allK l) (M := 652) (fun b hb r hr => by have := ha3 b hb r hr; omega)
    have h2 : (allK l).flatten.length = l.length := by rw [ha2]; simp
    omega
  have hwA : wholeA l = outs (allK l) ++ filterL (keysK l) ++ outB (ixOf 0 (allK l)) ++ bigL (outs (allK l)).length 4 ++ bigL ((outs (allK l)).length + (filterL (keysK l)).length) 4 ++ bigL l.length 4 := rfl
  have hwK : wholeK l = wholeA l ++ bigL (crcL (wholeA l)) 4 := rfl
  generalize wholeA l = wA at *
  generalize wholeK l = wK at *
  generalize allK l = al at *
  generalize blocksK l = bk at *
  obtain ⟨bls, cur⟩ := bk
  simp only at hbl hall hcr hblk
  replace hwA := Lib.hid hwA
  replace hwK := Lib.hid hwK
  replace hall := Lib.hid hall
  replace hr := Lib.hid hr
  replace hs := Lib.hid hs
  go_enter Tryd.func51, Tryd.ntmps51
  go_wp2_with fail
  refine hblk.out.mono ?_
  rintro e w1 ⟨v3, v4, v5, rfl, hSt⟩
  have hz1' := hSt.bel.size
  obtain ⟨A5, c5, rfl⟩ := hSt.o5.form
  obtain ⟨A6, c6, rfl⟩ := hSt.o6.form
  obtain ⟨A7, c7, rfl⟩ := hSt.o7.form
  have hlen1 : (List.map outB bls).length = bls.length := List.length_map ..
  have hlen2 : (List.map lastK bls).length = bls.length := List.length_map ..
  rw [hlen1, hlen2] at hSt
  clear hlen1 hlen2
  clear hblk
  go_upto_if 21 with fail
  go_cut [3, 4] (fun v3 v4 wz => DSt w wz v3 v4 (al.map outB) (al.map lastK))
  case first =>
    by_cases hc : 0 < cur.length
    · have hc' : (0 : Int) < (cur.length : Nat) := by omega
      have hlast : cur[cur.length - 1]? = some (cur[cur.length - 1]'(by omega)) := List.getElem?_eq_getElem (by omega)
      have hlk : lastK cur = (cur[cur.length - 1]'(by omega)).1 := by unfold lastK; rw [List.getLast?_eq_getElem?, hlast]; rfl
      have hcn : cur ≠ [] := List.length_pos_iff.1 hc
      generalize (cur[cur.length - 1]'(by omega)) = ro at *
      have hby := Lib.hid (RBytes_any A7 cur c7 w1 (Reads.of_own hSt.o7) (by omega) hcr)
      replace hlk := Lib.hid hlk
      replace hlast := Lib.hid hlast
      go_wp2_with fail
      refine hby.out.mono ?_
      rintro e w9 ⟨rfl, hb9⟩
      have hSt9 := hSt.below hb9
      have hz9 := hSt9.bel.size
      clear hSt hby
      have ho5 := Lib.hid (hSt9.o5.below ((Below.refl w9.heap.size w9).alloc (Nat.le_refl _) (.cells #[.string (bs (outB cur))] 9)))
      unfold OwnS at ho5
      rw [List.length_map] at ho5
      have hone := Lib.hid (show ∀ u ∈ [Value.string (bs (outB cur))], u.oneCell' = true from fun u hu => by simp at hu; subst hu; rfl)
      go_wp2_with (at_builtin; refine wpList_append_any _ rfl (.tmp 22) (.tmp 25) 65 rfl w.heap.size 9 j0 (.string ⟨#[]⟩) 1 16 Tryd.underlying65 hj0 hy0 hy1 hy2 rfl (by omega) (.slice A5 bls.length c5) bls.length ((bls.map outB).map strV) rfl ho5.out (w9.heap.size + 1) (some ⟨w9.heap.size, 0, none⟩) 1 1 _ rfl (new_str w9 _ _) hone.out (by unfold maxLen; omega) (by omega) (by rw [World.size_alloc]; omega) ?_)
      intro v5' w10 ho5' hg10 hat10
      have hO5 : OwnS w10 w.heap.size v5' (bls.map outB ++ [outB cur]) := OwnS.of_law (by simpa [strV] using ho5')
      obtain ⟨A9, c9, e9⟩ := hO5.form
      rw [List.length_append, List.length_singleton, List.length_map] at e9
      subst e9
      have hStA := hSt9.s5_ hg10 hO5 hat10
      have hzA := hStA.bel.size
      clear hSt9 hO5 ho5' ho5 hg10 hat10 hone
      obtain ⟨ad7, rfl, ha7, ac7⟩ := (Reads.of_own hStA.o7).2 hc
      have q7 := ac7 _ _ (rowsC_at cur _ ro hlast.out).1
      obtain ⟨b7, o7, rfl⟩ := plain_cell (ac7 0 _ (rowsC_at cur 0 cur[0] (List.getElem?_eq_getElem (by omega))).1)
      rw [add_off] at q7
      clear ac7
      have hi7 : ((cur.length : Nat) : Int) - 1 = ((cur.length - 1 : Nat) : Int) := by omega
      have hi7' : cur.length - 1 < cur.length := by omega
      generalize hln : cur.length - 1 = ln at *
      replace hln := Lib.hid hln
      replace hlast := 0
      have ho6 := Lib.hid (hStA.o6.below ((Below.refl w10.heap.size w10).alloc (Nat.le_refl _) (.cells #[.string (bs ro.1)] 9)))
      unfold OwnS at ho6
      rw [List.length_map] at ho6
      have hone := Lib.hid (show ∀ u ∈ [Value.string (bs ro.1)], u.oneCell' = true from fun u hu => by simp at hu; subst hu; rfl)
      go_wp2_with (at_builtin; refine wpList_append_any _ rfl (.tmp 27) (.tmp 35) 65 rfl w.heap.size 9 j0 (.string ⟨#[]⟩) 1 16 Tryd.underlying65 hj0 hy0 hy1 hy2 rfl (by omega) (.slice A6 bls.length c6) bls.length ((bls.map lastK).map strV) rfl ho6.out (w10.heap.size + 1) (some ⟨w10.heap.size, 0, none⟩) 1 1 _ rfl (new_str w10 _ _) hone.out (by unfold maxLen; omega) (by omega) (by rw [World.size_alloc]; omega) ?_)
      intro v6' w11 ho6' hg11 hat11
      have hO6 : OwnS w11 w.heap.size v6' (bls.map lastK ++ [ro.1]) := OwnS.of_law (by simpa [strV] using ho6')
      have hStB := hStA.s6_ hg11 hO6 hat11
      clear hStA hO6 ho6' ho6 hg11 hat11 hone
      go_wp2_with fail
      go_meet
      case rel =>
        rw [hall.out, if_neg hcn, List.map_append, List.map_append, List.map_singleton, List.map_singleton, hlk.out]
        exact ⟨hStB.o5, hStB.o6, hStB.bel⟩
    · go_wp2_with fail
      go_meet
      case rel =>
        have hcn : cur = [] := List.eq_nil_of_length_eq_zero (by omega)
        rw [hall.out, if_pos hcn, List.append_nil]
        exact ⟨hSt.o5, hSt.o6, hSt.bel⟩
  case rest =>
    clear hSt hbl hcr hz1'
    have hlo : (al.map outB).length = al.length := List.length_map ..
    have hll : (al.map lastK).length = al.length := List.length_map ..
    obtain ⟨A3, c3, rfl⟩ := hcut.o3.form
    obtain ⟨A4, c4, rfl⟩ := hcut.o4.form
    rw [hlo, hll] at hcut ⊢
    replace hlo := Lib.hid hlo
    replace hll := Lib.hid hll
    go_wp2_with fail
    go_loopw [6, 7, 8] (fun sv v7 iv wr => ∃ i, i ≤ al.length ∧ iv = .int .i64 (i : Nat) ∧ sv = .string (bs (outs (al.take i))) ∧ OwnR wr w.heap.size v7 (ixOf 0 (al.take i)) ∧ DSt w wr (.slice A3 al.length c3) (.slice A4 al.length c4) (al.map outB) (al.map lastK)) (fun _ _ iv _ => al.length - (intOf iv).toNat)
    case atStart => exact ⟨0, Nat.zero_le _, rfl, rfl, World.ownsRow_nil _ _ _ 2, hcut⟩
    case round =>
      obtain ⟨i, hi, rfl, rfl, hO7, hD⟩ := hrel
      have hzr := hD.bel.size
      obtain ⟨A7', c7', rfl⟩ := hO7.form
      have hixl : (ixOf 0 (al.take i)).length = i := by rw [ixOf_len, List.length_take]; omega
      rw [hixl]
      by_cases hil : i < al.length
      · have hil' : ((i : Nat) : Int) < (al.length : Nat) := by omega
        have hsn1 : outs (al.take (i + 1)) = outs (al.take i) ++ outB al[i] := by rw [List.take_succ_eq_append_getElem hil, outs_snoc]
        have hsn2 : ixOf 0 (al.take (i + 1)) = ixOf 0 (al.take i) ++ [(lastK al[i], varL [(outs (al.take i)).length, (outB al[i]).length])] := by rw [List.take_succ_eq_append_getElem hil, ixOf_snoc, Nat.zero_add]
        have r3 : wr.ownsRow w.heap.size 9 1 (.slice A3 al.length c3) al.length ((al.map outB).map strV) := by have := hD.o3; unfold OwnS at this; rwa [hlo.out] at this
        have r4 : wr.ownsRow w.heap.size 9 1 (.slice A4 al.length c4) al.length ((al.map lastK).map strV) := by have := hD.o4; unfold OwnS at this; rwa [hll.out] at this
        obtain ⟨a3, rfl, hab3, ac3⟩ := (Reads.of_own r3).2 (by omega)
        have q3 := ac3 i (.string (bs (outB al[i]))) (by rw [List.getElem?_map, List.getElem?_map, List.getElem?_eq_getElem hil]; rfl)
        obtain ⟨b3, o3, rfl⟩ := plain_cell (ac3 0 (.string (bs (outB al[0]))) (by rw [List.getElem?_map, List.getElem?_map, List.getElem?_eq_getElem (by omega)]; rfl))
        obtain ⟨a4, rfl, hab4, ac4⟩ := (Reads.of_own r4).2 (by omega)
        have q4 := ac4 i (.string (bs (lastK al[i]))) (by rw [List.getElem?_map, List.getElem?_map, List.getElem?_eq_getElem hil]; rfl)
        obtain ⟨b4, o4, rfl⟩ := plain_cell (ac4 0 (.string (bs (lastK al[0]))) (by rw [List.getElem?_map, List.getElem?_map, List.getElem?_eq_getElem (by omega)]; rfl))
        rw [add_off] at q3 q4
        clear ac3 ac4 r3 r4
        have hS1 : (outs (al.take i)).length ≤ 700000 := Nat.le_trans (outs_take al i) hout
        have hS2 : (outB al[i]).length ≤ 700000 := Nat.le_trans (outs_at (List.getElem_mem hil)) hout
        generalize hbi : al[i] = bi at *
        replace hbi := Lib.hid hbi
        generalize hsO : outs (al.take i) = sO at *
        replace hsO := Lib.hid hsO
        generalize hix : ixOf 0 (al.take i) = ix at *
        replace hix := Lib.hid hix
        have hz3 : (bs sO).size = sO.length := bs_size _
        have hz4 : (bs (outB bi)).size = (outB bi).length := bs_size _
        have hw1 : IntKind.u64.wrap ((sO.length : Nat) : Int) = (sO.length : Nat) := by rw [IntKind.wrap_u64]; omega
        have hw2 : IntKind.u64.wrap (((outB bi).length : Nat) : Int) = ((outB bi).length : Nat) := by rw [IntKind.wrap_u64]; omega
        have hb3l : b3 < wr.heap.size := hab3
        have hb4l : b4 < wr.heap.size := hab4
        replace hD := Lib.hid hD
        replace hO7 := Lib.hid hO7
        replace hixl := Lib.hid hixl
        replace hsn1 := Lib.hid hsn1
        replace hsn2 := Lib.hid hsn2
        replace hcut := 0
        clear hcut
        go_wp2_with fail
        have hxc := @Ext.cell
        have hxf := @Ext.frozen
        refine wp_hide (fun Q0 hQ0 => ?_)
        refine wp_region_line (fun w' => ∃ x : Ext _, w' = x.w) [some false, some false, some false, some false, some false, some false, some false, some false, some false, some false, some false, some false, some false, some false, none, none, none, none, none, none] 4 (by kernel_rfl) (by kernel_rfl) ⟨⟨_, (Below.refl _ _).drew⟩, rfl⟩ ?_
        simp only [earlyL, tailL]
        repeat (first | ((with_reducible refine wpMix_p ?_); go_big_quiet_step (fail); refine wpQuiet_nil ?_) | ((with_reducible refine wpMix_e ?_); go_big_quiet_step ((first | fail)); refine wpQuiet_nil ?_))
        refine wpMix_nil ?_
        clear hxc hxf
        intro wx hwx
        obtain ⟨x, hx⟩ := hwx
        have hb := x.below
        rw [← hx] at hb
        clear hx x
        have hbs := hb.size
        have hDx := hD.out.below hb
        have hOx := hO7.out.below hb
        have hBn := Blk.new wx 24 #[.int .u64 (sO.length : Nat), .int .u64 ((outB bi).length : Nat)]
        have hba : Below wr.heap.size wr (wx.alloc (.cells #[.int .u64 (sO.length : Nat), .int .u64 ((outB bi).length : Nat)] 24)) := hb.alloc hbs _
        have hbx : Below wx.heap.size wx (wx.alloc (.cells #[.int .u64 (sO.length : Nat), .int .u64 ((outB bi).length : Nat)] 24)) := (Below.refl _ _).alloc (Nat.le_refl _) _
        have hDy := Lib.hid (hDx.below hbx)
        have hOy := Lib.hid (hOx.below hbx)
        have hvar := Lib.hid (RVar_two wx.heap.size sO.length (outB bi).length (wx.alloc (.cells #[.int .u64 (sO.length : Nat), .int .u64 ((outB bi).length : Nat)] 24)) (hBn.cell 0) (hBn.cell 1) (by omega) (by omega))
        clear hDx hOx hBn hbx
        refine wpTail_step ?_
        intro Q1 hQ1
        go_wp2_with fail
        refine hQ1 _ _ rfl (fun _ => ⟨⟨_, hba⟩, rfl⟩) ?_
        clear hQ1 Q1
        refine wpTail_step ?_
        intro Q1 hQ1
        go_wp2_with fail
        refine hvar.out.mono ?_
        rintro e w3 ⟨rfl, hb3⟩
        have hb13 := hba.trans (hb3.mono hba.size)
        have hDz := hDy.out.below hb3
        have hOz := hOy.out.below hb3
        have hz3' := hDz.bel.size
        clear hvar hDy hOy
        generalize hvl : varL [sO.length, (outB bi).length] = vl at *
        replace hvl := Lib.hid hvl
        go_wp2_with fail
        refine hQ1 _ _ rfl (fun _ => ⟨⟨_, hb13⟩, rfl⟩) ?_
        clear hQ1 Q1
        refine wpTail_step ?_
        intro Q1 hQ1
        go_wp2_with fail
        refine hQ1 _ _ rfl (fun _ => ⟨⟨_, hb13⟩, rfl⟩) ?_
        clear hQ1 Q1
        have hbn : Below w3.heap.size w3 (w3.alloc (.cells #[.string (bs (lastK bi)), .string (bs vl)] 136)) := (Below.refl _ _).alloc (Nat.le_refl _) _
        have hba3 : Below wr.heap.size wr (w3.alloc (.cells #[.string (bs (lastK bi)), .string (bs vl)] 136)) := hb13.alloc hb13.size _
        have hOv := hOz.below hbn
        unfold OwnR at hOv
        rw [hixl.out] at hOv
        have hone : ∀ u ∈ [Value.string (bs (lastK bi)), Value.string (bs vl)], u.oneCell' = true := fun u hu => by simp at hu; rcases hu with rfl | rfl <;> rfl
        have hBx : w.heap.size ≤ (w3.alloc (.cells #[.string (bs (lastK bi)), .string (bs vl)] 136)).heap.size := by rw [World.size_alloc]; omega
        have hrd2 := reads2 w3 136 (.string (bs (lastK bi))) (.string (bs vl))
        replace hone := Lib.hid hone
        replace hDz := Lib.hid hDz
        replace hOz := Lib.hid hOz
        refine wpTail_step ?_
        intro Q1 hQ1
        go_wp2_with fail
        refine hQ1 _ _ rfl (fun _ => ⟨⟨_, hba3⟩, rfl⟩) ?_
        clear hQ1 Q1
        refine wpTail_step ?_
        intro Q1 hQ1
        go_wp2_with (at_builtin; refine wpList_append_any _ rfl (.tmp 43) (.tmp 60) 103 rfl w.heap.size 136 i0 _ 2 32 Tryd.underlying103 hi0 hz0 hz1 hz2 rfl (by omega) (.slice A7' i c7') i (rowsC ix) rfl hOv (w3.heap.size + 1) (some ⟨w3.heap.size, 0, none⟩) 1 1 _ rfl hrd2 hone.out (by unfold maxLen; omega) (by omega) hBx ?_)
        intro v7 w7 ho7 hg7 hat7
        go_wp2_with fail
        refine hQ1 _ _ rfl (fun h => absurd h (by decide)) ?_
        clear hQ1 Q1
        refine wpTail_step ?_
        intro Q1 hQ1
        go_wp2_with fail
        refine hQ1 _ _ rfl (fun h => absurd h (by decide)) ?_
        clear hQ1 Q1
        refine wpTail_nil ?_
        refine hQ0 _ _ ?_
        clear hQ0 Q0
        have hD7 := hDz.out.s7 (hO7 := hOz.out) (by rw [hixl.out]; exact hg7)
        have hO7' : OwnR w7 w.heap.size v7 (ix ++ [(lastK bi, vl)]) := OwnR.snoc (l := ix) (lastK bi, vl) (by rw [hixl.out]; exact ho7)
        have r3 : w7.ownsRow w.heap.size 9 1 (.slice (some ⟨b3, o3, none⟩) al.length c3) al.length ((al.map outB).map strV) := by have := hD7.o3; unfold OwnS at this; rwa [hlo.out] at this
        obtain ⟨a3, e3, hab3', ac3⟩ := (Reads.of_own r3).2 (by omega)
        injection e3 with e3
        subst e3
        have q3' := ac3 i (.string (bs (outB bi))) (by rw [List.getElem?_map, List.getElem?_map, List.getElem?_eq_getElem hil, ← hbi.out]; rfl)
        rw [add_off] at q3'
        clear ac3 r3 q3 q4 hg7 hat7 ho7 hOv hrd2 hbn hba3 hb13 hb3 hba hb hDz hOz hD hO7
        have hapd := bs_append sO (outB bi)
        have hs1 : ¬ 9223372036854775807 < (bs sO).size + (bs (outB bi)).size := by rw [bs_size, bs_size]; omega
        go_wp2_with fail
        refine ⟨⟨i + 1, by omega, by go_num, by rw [hsn1.out], by rw [hsn2.out]; exact hO7', hD7⟩, by first | omega | (simp only [intOf]; omega)⟩
      · obtain rfl : i = al.length := by omega
        have hil' : ¬ ((al.length : Nat) : Int) < (al.length : Nat) := by omega
        rw [List.take_length] at hO7 hixl ⊢
        generalize hX : ixOf 0 al = X at *
        rw [hixl] at hO7
        go_wp2_with fail
        have hbd := hD.bel
        clear hD hcut hil hil'
        replace hX := Lib.hid hX
        replace hixl := Lib.hid hixl
        generalize wr = wd at *
        go_loopw [9, 10] (fun v9 iv wr => ∃ i, i ≤ l.length ∧ iv = .int .i64 (i : Nat) ∧ OwnS wr w.heap.size v9 (keysK (l.take i)) ∧ OwnR wr w.heap.size (.slice A7' al.length c7') X ∧ Below w.heap.size w wr) (fun _ iv _ => l.length - (intOf iv).toNat)
        case atStart => exact ⟨0, Nat.zero_le _, rfl, World.ownsRow_nil _ _ _ 1, hO7, hbd⟩
        case round =>
          obtain ⟨i, hi, rfl, hO9, hO7, hbr⟩ := hrel
          have hzr := hbr.size
          obtain ⟨A9, c9, rfl⟩ := hO9.form
          by_cases hil : i < l.length
          · have hil' : ((i : Nat) : Int) < (l.length : Nat) := by omega
            have hx := List.getElem?_eq_getElem hil
            have hkn : keysK (l.take (i + 1)) = if (l.take i).getLast?.map (·.key) = some l[i].key then keysK (l.take i) else keysK (l.take i) ++ [l[i].key] := by rw [List.take_succ_eq_append_getElem hil, keysK_snoc]
            have hkl := keysK_len (l.take i)
            rw [List.length_take] at hkl
            obtain ⟨ad, rfl, hab, acell⟩ := (hr.out.below hbr).2 (by omega)
            obtain ⟨bb, oo, rfl⟩ := plain_cell (acell 0 _ (entsC_at l 0 l[0] (List.getElem?_eq_getElem (by omega))).1)
            have q0 := acell _ _ (entsC_at l i _ hx).1
            rw [add_off] at q0
            have hab' : bb < wr.heap.size := Nat.lt_of_lt_of_le hab hzr
            have hprev : ∀ j, j + 1 = i → ∃ y, (l.take i).getLast? = some y ∧ wr.cell? ⟨bb, oo + j * 4, none⟩ = some (.string (bs y.key)) := by
              intro j hj
              have hy := List.getElem?_eq_getElem (show j < l.length by omega)
              refine ⟨l[j]'(by omega), ?_, ?_⟩
              rotate_left 1
              · have t := acell _ _ (entsC_at l j _ hy).1
                rw [add_off] at t
                exact t
              · rw [List.getLast?_eq_getElem?, List.length_take, List.getElem?_take, if_pos (by omega), show min i l.length - 1 = j by omega]
                exact hy
            clear acell
            generalize hks : keysK (l.take i) = ks at *
            replace hks := Lib.hid hks
            replace hx := Lib.hid hx
            generalize l[i] = eo at *
            have hab2 : bb < w.heap.size := hab
            by_cases hi00 : i = 0
            · subst hi00
              rw [List.take_zero] at hkn
              replace hkn : keysK (l.take (0 + 1)) = ks ++ [eo.key] := by rw [hkn]; rfl
              replace hkn := Lib.hid hkn
              replace hks := Lib.hid hks
              clear hprev
              rw [Nat.zero_mul, Nat.add_zero] at q0
              replace hO9 := Lib.hid hO9
              replace hO7 := Lib.hid hO7
              go_wp2_with fail
              have hxc := @Ext.cell
              refine wp_region_ext (by kernel_rfl) (by kernel_rfl) ?_
              repeat (go_big_quiet_step ((first | fail)))
              refine wpQuiet_nil ?_
              clear hxc
              intro wx hwx
              obtain ⟨x, hx⟩ := hwx
              have hb := x.below
              rw [← hx] at hb
              clear hx x
              have hbx := hb.size
              have q0x := (hb.cell (p := ⟨bb, oo, none⟩) hab').trans q0
              have hlx : bb < wx.heap.size := Nat.lt_of_lt_of_le hab' hbx
              have hO9x := hO9.out.below hb
              have hO7x := hO7.out.below hb
              have hbrx := hbr.trans (hb.mono hzr)
              have hzx := hbrx.size
              clear hO9 hO7
              have ho9 := hO9x.below ((Below.refl wx.heap.size wx).alloc (Nat.le_refl _) (.cells #[.string (bs eo.key)] 9))
              unfold OwnS at ho9
              have hone := Lib.hid (show ∀ u ∈ [Value.string (bs eo.key)], u.oneCell' = true from fun u hu => by simp at hu; subst hu; rfl)
              replace hO9x := Lib.hid hO9x
              replace hO7x := Lib.hid hO7x
              go_wp2_with (at_builtin; refine wpList_append_any _ rfl (.tmp 90) (.tmp 96) 65 rfl w.heap.size 9 j0 (.string ⟨#[]⟩) 1 16 Tryd.underlying65 hj0 hy0 hy1 hy2 rfl (by omega) (.slice A9 ks.length c9) ks.length (ks.map strV) rfl ho9 (wx.heap.size + 1) (some ⟨wx.heap.size, 0, none⟩) 1 1 _ rfl (new_str wx _ _) hone.out (by unfold maxLen; omega) (by omega) (by rw [World.size_alloc]; omega) ?_)
              intro v9' w10 ho9' hg10 hat10
              have hO9' : OwnS w10 w.heap.size v9' (ks ++ [eo.key]) := OwnS.of_law (by simpa [strV] using ho9')
              have hk10 : KeptBut wx w10 (fun k => (Value.slice A9 ks.length c9).ownBlock = some k) := (KeptBut.of_below ((Below.refl _ _).alloc (Nat.le_refl _) _)).then_grown hg10 (fun k e => e)
              have hO7' : OwnR w10 w.heap.size (.slice A7' al.length c7') X := own_kept hO7x.out hk10 (fun k e1 e2 => own_types hO7x.out hO9x.out (by decide) k e1 e2)
              have hb10 := hk10.below_of hbrx (fun k e => (own_lt hO9x.out k e).1)
              clear ho9 ho9' hg10 hat10 hk10 hone hO9x hO7x
              go_wp2_with fail
              refine ⟨⟨0 + 1, by omega, by go_num, by rw [hkn.out]; exact hO9', hO7', hb10⟩, by first | omega | (simp only [intOf]; omega)⟩
            · obtain ⟨j, hj⟩ : ∃ j, j + 1 = i := ⟨i - 1, by omega⟩
              obtain ⟨y, hy, qy⟩ := hprev j hj
              rw [hy] at hkn
              have hi0b : (((i : Nat) : Int) == 0) = false := by simpa using hi00
              have hij : ((i : Nat) : Int) - 1 = ((j : Nat) : Int) := by omega
              have hjl : ((j : Nat) : Int) < (l.length : Nat) := by omega
              clear hprev hy
              replace hj := Lib.hid hj
              replace hO9 := Lib.hid hO9
              replace hO7 := Lib.hid hO7
              by_cases hk : y.key = eo.key
              · have hke : ((bs eo.key).toList == (bs y.key).toList) = true := by rw [hk]; simp
                rw [if_pos (by rw [← hk]; rfl)] at hkn
                replace hkn := Lib.hid hkn
                replace hk := Lib.hid hk
                go_wp2_with fail
                have hxc := @Ext.cell
                refine wp_region_ext (by kernel_rfl) (by kernel_rfl) ?_
                repeat (go_big_quiet_step ((first | fail)))
                refine wpQuiet_nil ?_
                clear hxc
                intro wx hwx
                obtain ⟨x, hx⟩ := hwx
                have hb := x.below
                rw [← hx] at hb
                clear hx x
                go_wp2_with fail
                refine ⟨⟨i + 1, by omega, by go_num, by rw [hkn.out]; exact hO9.out.below hb, hO7.out.below hb, hbr.trans (hb.mono hzr)⟩, by first | omega | (simp only [intOf]; omega)⟩
              · have hke : ((bs eo.key).toList == (bs y.key).toList) = false := by rw [bs_toList, bs_toList]; simpa using fun e => hk e.symm
                rw [if_neg (by intro e; exact hk (Option.some.inj e))] at hkn
                replace hkn := Lib.hid hkn
                replace hk := Lib.hid hk
                go_wp2_with fail
                have hxc := @Ext.cell
                refine wp_region_ext (by kernel_rfl) (by kernel_rfl) ?_
                repeat (go_big_quiet_step ((first | fail)))
                refine wpQuiet_nil ?_
                clear hxc
                intro wx hwx
                obtain ⟨x, hx⟩ := hwx
                have hb := x.below
                rw [← hx] at hb
                clear hx x
                have hbx := hb.size
                have q0x := (hb.cell (p := ⟨bb, oo + i * 4, none⟩) hab').trans q0
                have hlx : bb < wx.heap.size := Nat.lt_of_lt_of_le hab' hbx
                have hO9x := hO9.out.below hb
                have hO7x := hO7.out.below hb
                have hbrx := hbr.trans (hb.mono hzr)
                have hzx := hbrx.size
                clear hO9 hO7
                have ho9 := hO9x.below ((Below.refl wx.heap.size wx).alloc (Nat.le_refl _) (.cells #[.string (bs eo.key)] 9))
                unfold OwnS at ho9
                have hone := Lib.hid (show ∀ u ∈ [Value.string (bs eo.key)], u.oneCell' = true from fun u hu => by simp at hu; subst hu; rfl)
                replace hO9x := Lib.hid hO9x
                replace hO7x := Lib.hid hO7x
                go_wp2_with (at_builtin; refine wpList_append_any _ rfl (.tmp 90) (.tmp 96) 65 rfl w.heap.size 9 j0 (.string ⟨#[]⟩) 1 16 Tryd.underlying65 hj0 hy0 hy1 hy2 rfl (by omega) (.slice A9 ks.length c9) ks.length (ks.map strV) rfl ho9 (wx.heap.size + 1) (some ⟨wx.heap.size, 0, none⟩) 1 1 _ rfl (new_str wx _ _) hone.out (by unfold maxLen; omega) (by omega) (by rw [World.size_alloc]; omega) ?_)
                intro v9' w10 ho9' hg10 hat10
                have hO9' : OwnS w10 w.heap.size v9' (ks ++ [eo.key]) := OwnS.of_law (by simpa [strV] using ho9')
                have hk10 : KeptBut wx w10 (fun k => (Value.slice A9 ks.length c9).ownBlock = some k) := (KeptBut.of_below ((Below.refl _ _).alloc (Nat.le_refl _) _)).then_grown hg10 (fun k e => e)
                have hO7' : OwnR w10 w.heap.size (.slice A7' al.length c7') X := own_kept hO7x.out hk10 (fun k e1 e2 => own_types hO7x.out hO9x.out (by decide) k e1 e2)
                have hb10 := hk10.below_of hbrx (fun k e => (own_lt hO9x.out k e).1)
                clear ho9 ho9' hg10 hat10 hk10 hone hO9x hO7x
                go_wp2_with fail
                refine ⟨⟨i + 1, by omega, by go_num, by rw [hkn.out]; exact hO9', hO7', hb10⟩, by first | omega | (simp only [intOf]; omega)⟩
          · obtain rfl : i = l.length := by omega
            have hil' : ¬ ((l.length : Nat) : Int) < (l.length : Nat) := by omega
            rw [List.take_length] at hO9 ⊢
            have hXs : ∀ r ∈ X, r.1.length ≤ 139 ∧ r.2.length ≤ 18 := by rw [← hX.out]; exact ixOf_small al 0 (fun b hb r hr => (ha3 b hb r hr).1)
            have hXl : X.length = al.length := hixl.out
            have hIl := outB_len_le (b := X) (M := 157) (fun r hr => by have := hXs r hr; omega)
            rw [hXl] at hIl
            have hKl := keysK_len l
            have hKs := keysK_mem (l := l) (P := fun k => k.length ≤ 64) (fun e he => (hs.out e he).1)
            have hFl : (filterL (keysK l)).length ≤ 1500 := by rw [filterL_len]; unfold filterN; omega
            have hmake := Lib.hid (RMake_any A9 (keysK l) c9 wr (Reads.of_own hO9) (by omega) (fun k hk => by have := hKs k hk; omega))
            have hbytes := Lib.hid fun W (hb : Below wr.heap.size wr W) => RBytes_any A7' X c7' W (by rw [hXl]; exact Reads.of_own (show W.ownsRow w.heap.size 136 2 (.slice A7' al.length c7') al.length (rowsC X) from by have := hO7.below hb; unfold OwnR at this; rwa [hXl] at this)) (by omega) (fun r hr => by have := hXs r hr; omega)
            rw [hXl] at hbytes
            generalize keysK l = ks at *
            generalize filterL ks = F at *
            generalize outB X = I at *
            generalize outs al = O at *
            have hwAl := congrArg List.length hwA.out
            simp only [List.length_append, bigL_len] at hwAl
            obtain ⟨OF, hOF⟩ : ∃ x, x = O ++ F := ⟨_, rfl⟩
            obtain ⟨OI, hOI⟩ : ∃ x, x = OF ++ I := ⟨_, rfl⟩
            obtain ⟨g1, hg1⟩ : ∃ x, x = bigL O.length 4 := ⟨_, rfl⟩
            obtain ⟨g2, hg2⟩ : ∃ x, x = bigL OF.length 4 := ⟨_, rfl⟩
            obtain ⟨g3, hg3⟩ : ∃ x, x = bigL l.length 4 := ⟨_, rfl⟩
            obtain ⟨g4, hg4⟩ : ∃ x, x = bigL (crcL wA) 4 := ⟨_, rfl⟩
            obtain ⟨a1, ha1'⟩ : ∃ x, x = OI ++ g1 := ⟨_, rfl⟩
            obtain ⟨a2, ha2'⟩ : ∃ x, x = a1 ++ g2 := ⟨_, rfl⟩
            have hOFl : OF.length = O.length + F.length := by rw [hOF, List.length_append]
            have hwA' : wA = a2 ++ g3 := by rw [hwA.out, ha2', ha1', hOI, hg1, hg2, hg3, hOFl, hOF]
            have hwK' : wK = wA ++ g4 := by rw [hwK.out, hg4]
            have hOIl : OI.length = OF.length + I.length := by rw [hOI, List.length_append]
            have l1 : g1.length = 4 := by rw [hg1, bigL_len]
            have l2 : g2.length = 4 := by rw [hg2, bigL_len]
            have l3 : g3.length = 4 := by rw [hg3, bigL_len]
            have l4 : g4.length = 4 := by rw [hg4, bigL_len]
            have la1 : a1.length = OI.length + 4 := by rw [ha1', List.length_append, l1]
            have la2 : a2.length = a1.length + 4 := by rw [ha2', List.length_append, l2]
            have hf1 := R12four_any O.length
            have hf2 := R12four_any OF.length
            have hf3 := R12four_any l.length
            have hf4 := R12four_any (crcL wA)
            rw [← hg1] at hf1
            rw [← hg2] at hf2
            rw [← hg3] at hf3
            rw [← hg4] at hf4
            have hcrcl := crcL_lt wA
            have p1 : bs O ++ bs F = bs OF := by rw [hOF, bs_append]
            have p2 : bs OF ++ bs I = bs OI := by rw [hOI, bs_append]
            have p3 : bs OI ++ bs g1 = bs a1 := by rw [ha1', bs_append]
            have p4 : bs a1 ++ bs g2 = bs a2 := by rw [ha2', bs_append]
            have p5 : bs a2 ++ bs g3 = bs wA := by rw [hwA', bs_append]
            have p6 : bs wA ++ bs g4 = bs wK := by rw [hwK', bs_append]
            have hcrc := Lib.hid fun W => RCrc_any wA W (by omega)
            have k1 : ¬ 9223372036854775807 < (bs O).size + (bs F).size := by rw [bs_size, bs_size]; omega
            have k2 : ¬ 9223372036854775807 < (bs OF).size + (bs I).size := by rw [bs_size, bs_size]; omega
            have k3 : ¬ 9223372036854775807 < (bs OI).size + (bs g1).size := by rw [bs_size, bs_size]; omega
            have k4 : ¬ 9223372036854775807 < (bs a1).size + (bs g2).size := by rw [bs_size, bs_size]; omega
            have k5 : ¬ 9223372036854775807 < (bs a2).size + (bs g3).size := by rw [bs_size, bs_size]; omega
            have k6 : ¬ 9223372036854775807 < (bs wA).size + (bs g4).size := by rw [bs_size, bs_size]; omega
            have z1 : (bs O).size = O.length := bs_size _
            have z2 : (bs OF).size = OF.length := bs_size _
            replace hf1 := Lib.hid fun W => hf1 W (by omega)
            replace hf2 := Lib.hid fun W => hf2 W (by omega)
            replace hf3 := Lib.hid fun W => hf3 W (by omega)
            replace hf4 := Lib.hid fun W => hf4 W (by omega)
            clear hwAl hOF hOI hg1 hg2 hg3 hg4 ha1' ha2' hwA' hwK' hOFl hOIl la1 la2 l1 l2 l3 l4 hXs hIl hFl hKs hX hwA hwK hixl hXl hout hO7 hO9 ha1 ha2 ha3
            go_wp2_with fail
            refine hmake.out.mono ?_
            rintro e w2 ⟨rfl, hb2⟩
            have hz2' := hb2.size
            go_wp2_with fail
            refine (hbytes.out w2 hb2).mono ?_
            rintro e w3 ⟨rfl, hb3⟩
            have hb23 := hb2.trans (hb3.mono hz2')
            go_wp2_with fail
            refine (hf1.out w3).mono ?_
            rintro e w4 ⟨rfl, hb4⟩
            have hb24 := hb23.trans (hb4.mono hb23.size)
            go_wp2_with fail
            refine (hf2.out w4).mono ?_
            rintro e w5 ⟨rfl, hb5⟩
            have hb25 := hb24.trans (hb5.mono hb24.size)
            go_wp2_with fail
            refine (hf3.out w5).mono ?_
            rintro e w6 ⟨rfl, hb6⟩
            have hb26 := hb25.trans (hb6.mono hb25.size)
            go_wp2_with fail
            refine (hcrc.out w6).mono ?_
            rintro e w7 ⟨rfl, hb7⟩
            have hb27 := hb26.trans (hb7.mono hb26.size)
            go_wp2_with fail
            refine (hf4.out w7).mono ?_
            rintro e w8 ⟨rfl, hb8⟩
            have hb28 := hb27.trans (hb8.mono hb27.size)
            have hbE := hbr.trans (hb28.mono hzr)
            go_wp2_with fail
            go_ret
            exact ⟨rfl, hbE⟩
end Go.Proofs.YtfnlponoakhegaaDoor
