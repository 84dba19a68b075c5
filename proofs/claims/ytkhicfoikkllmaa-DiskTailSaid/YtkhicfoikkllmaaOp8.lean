/- Contracts: Used, Append. -/
import Derived.Test.YtkhicfoikkllmaaOp7
import Derived.Test.YtkhicfoikkllmaaMpR
import Derived.Test.YtkhicfoikkllmaaAp
namespace Go.Proofs.Ytkhicfoikkllmaa
open Go.RowKit
set_option linter.unusedVariables false
set_option linter.unusedSimpArgs false
theorem Dsk.dlen_le {s : Dsk} (ok : s.Ok) (i : Nat) : s.dlen i ≤ 1048576 := by
  unfold Dsk.dlen
  cases h : s.files[i]? with
  | none => simp
  | some f => exact (ok.file f (List.mem_of_getElem? h)).2
def leftB (left : Lit → Bool) (k : List UInt8) : Bool := left (.string k)
def sumU (s : Dsk) (left : Lit → Bool) : Nat := ((s.names.filter fun p => !leftB left p.1).map fun p => s.dlen p.2).sum
set_option maxRecDepth 100000 in
set_option maxHeartbeats 2000000 in
theorem Used_any {w : World} {F : Nat → Prop} {d : Nat} {L : Lay} {s : Dsk} (h : DskAt w F d L s) (ok : s.Ok) (hnl : s.names.length < 1073741824) :
    Calls Try.prog 29 #[.pointer (some ⟨d, 0, none⟩)] w fun e w' => e = .returned (.int .i64 (s.used : Nat)) ∧ Below w.heap.size w w' := by
  have hn := Lib.hid (none_any h)
  have c1 := h.box.cell 1
  have hdl := h.lt
  have hnd : s.names.Pairwise (fun p q => p.1 ≠ q.1) := by
    have := h.names.keys Try.underlying9
    unfold mvM at this
    rw [List.pairwise_map] at this
    exact this
  have hhas : ∀ p ∈ s.names, Maps.has (nmD (mvM L.blk s.names)) (.string p.1) = true := by
    intro p hp
    rw [nmD_has, mvM_get]
    cases hg : getM p.1 s.names with
    | none => exact absurd rfl (getM_none hg p hp)
    | some i => rfl
  have hstart : sumU s (Maps.has (nmD (mvM L.blk s.names))) = 0 := sum_none _ _ _ hhas
  replace hnd := Lib.hid hnd
  clear hhas
  replace hstart := Lib.hid hstart
  go_enter Try.func29, Try.ntmps29
  go_wp2_with fail
  refine hn.out.mono ?_
  rintro e w' ⟨rfl, rfl⟩
  go_wp2_with (at_range; refine wpList_nm_range _ rfl _ 53 rfl 9 60 Try.underlying9 Try.underlying53 L.gN (mvM L.blk s.names) rfl h.names ?_; intro w0 hrg0 hg0 hs0)
  have hb0 : Below w.heap.size w w0 := ⟨hg0.os, hg0.tape, hg0.output, hg0.size, fun k hk => hg0.block k hk (by simp)⟩
  go_frame
  go_loopw [3] (fun v wr => ∃ left cnt, wr.ranges Try.prog 9 ptrR L.gN w.heap.size (mvM L.blk s.names).length (nmD (mvM L.blk s.names)) left cnt ∧ v = .int .i64 (sumU s left : Nat) ∧ Below w.heap.size w wr) (fun _ wr => wr.rangeLeft L.gN w.heap.size)
  case atStart => exact ⟨_, _, hrg0, by rw [hstart.out]; rfl, hb0⟩
  case round =>
    obtain ⟨left, cnt, hrg, rfl, hbr⟩ := hrel
    have hsum : sumU s left ≤ 1125899906842624 := by
      have h1 := sum_le s.dlen 1048576 (Dsk.dlen_le ok) (fun p => !leftB left p.1) s.names
      unfold sumU
      omega
    have hle := hrg.left_eq
    replace hrg := Lib.hid hrg
    replace hle := Lib.hid hle
    replace hrg0 := Lib.hid hrg0
    have hfi : ∀ (x : ByteArray) (b : Nat), getM x.data.toList (mvM L.blk s.names) = some b → ∃ i f A cap, getM x.data.toList s.names = some i ∧ b = L.blk i ∧ s.files[i]? = some f ∧ s.dlen i = f.d.length ∧ w.cell? ⟨b, 0, none⟩ = some (.slice A f.d.length cap) ∧ b < w.heap.size := by
      intro x b hg
      rw [mvM_get] at hg
      cases hg2 : getM x.data.toList s.names with
      | none => rw [hg2] at hg; cases hg
      | some i =>
        rw [hg2] at hg
        injection hg with hg
        obtain ⟨f, hf, hm⟩ := Dsk.file_at ok hg2
        obtain ⟨bi, oi⟩ := h.file i f hf (h.live.1 _ (getM_mem hg2))
        obtain ⟨A, cap, hv⟩ := oi.form
        have b0 := bi.cell 0
        rw [hv] at b0
        exact ⟨i, f, A, cap, rfl, hg.symm, hf, by unfold Dsk.dlen; rw [hf], by rw [← hg]; simpa using b0, by rw [← hg]; exact bi.lt⟩
    replace hfi := Lib.hid hfi
    go_wp2_with (at_next; refine wpList_nm_next _ rfl _ rfl 9 Try.underlying9 L.gN w.heap.size (mvM L.blk s.names) left cnt rfl hrg.out ?_ ?_)
    · intro hc0 hl0
      have hfin : sumU s left = s.used := sum_all s.dlen (leftB left) s.names (fun k => hl0 _)
      replace hfin := Lib.hid hfin
      clear hl0 hc0
      go_wp2_with fail
      go_ret
      exact ⟨by rw [hfin.out]; rfl, hbr⟩
    · intro x b w1 cnt1 hg hl hrg1 hlt hg1 hs1 hen
      obtain ⟨i, f, A, cap, hgi, rfl, hf, hd, hcell, hbl⟩ := hfi.out x b hg
      have hb1 : Below w.heap.size w w1 := hbr.trans ⟨hg1.os, hg1.tape, hg1.output, hg1.size, fun k hk => hg1.block k (by have := hbr.size; omega) (by simp; omega)⟩
      have q : w1.cell? ⟨L.blk i, 0, none⟩ = some (.slice A f.d.length cap) := (hb1.cell (p := ⟨L.blk i, 0, none⟩) hbl).trans hcell
      have hsn : sumU s (fun z => left z && !z.sameKey (.string x.data.toList)) = sumU s left + f.d.length := by
        rw [← hd]
        exact sum_step s.dlen (leftB left) x.data.toList i hl s.names hnd.out hgi
      have hdl2 : f.d.length ≤ 1048576 := (ok.file f (List.mem_of_getElem? hf)).2
      replace hsn := Lib.hid hsn
      replace hrg1 := Lib.hid hrg1
      replace hgi := Lib.hid hgi
      replace hf := Lib.hid hf
      replace hd := Lib.hid hd
      replace hg := Lib.hid hg
      replace hl := Lib.hid hl
      clear hcell
      go_wp2_with fail
      go_roundw
      case rel => exact ⟨_, _, hrg1.out, by rw [hsn.out]; go_num, hb1⟩
      case measure => rw [hrg1.out.left_eq, hle.out]; exact hlt
set_option maxRecDepth 100000 in
set_option maxHeartbeats 2000000 in
theorem Append_any {w : World} {F : Nat → Prop} {d : Nat} {L : Lay} {s : Dsk} (h : DskAt w F d L s) (ok : s.Ok) (n x : ByteArray) (hn : n.size ≤ maxLen) (hx : x.size ≤ 1073741824) (hnl : s.names.length < 1073741824) :
    Calls Try.prog 26 #[.pointer (some ⟨d, 0, none⟩), .string n, .string x] w fun e w' => e = .returned (.int .i64 ((s.append n.data.toList x.data.toList).2 : Nat)) ∧ Went w w' F d (s.append n.data.toList x.data.toList).1 := by
  have hxs : x.data.toList.length = x.size := rfl
  rcases Bool.eq_false_or_eq_true s.off with ho | ho
  · have hR : s.append n.data.toList x.data.toList = (s, 7) := by unfold Dsk.append; rw [if_pos ho]
    rw [hR]
    clear hR
    have hf := Lib.hid (file_off h n hn ho)
    replace ho := Lib.hid ho
    replace hn := Lib.hid hn
    go_enter Try.func26, Try.ntmps26
    go_wp2_with fail
    refine hf.out.mono ?_
    rintro e w' ⟨rfl, rfl⟩
    go_wp2_with fail
    go_ret
    exact ⟨rfl, .of (KeptBut.refl _ _) h⟩
  · cases hg : getM n.data.toList s.names with
    | none =>
      have hR : s.append n.data.toList x.data.toList = (s, 4) := by unfold Dsk.append; rw [if_neg (by rw [ho]; decide), hg]
      rw [hR]
      clear hR
      have hf := Lib.hid (file_none h n hn ho hg)
      replace ho := Lib.hid ho
      replace hg := Lib.hid hg
      replace hn := Lib.hid hn
      go_enter Try.func26, Try.ntmps26
      go_wp2_with fail
      refine hf.out.mono ?_
      rintro e w' ⟨rfl, rfl⟩
      go_wp2_with fail
      go_ret
      exact ⟨rfl, .of (KeptBut.refl _ _) h⟩
    | some i =>
      have hf := Lib.hid (file_some h n hn ho hg)
      have hu := fun (wz : World) (hz : DskAt wz F d L s) => Used_any hz ok hnl
      have c0 := h.box.cell 0
      have hdl := h.lt
      have hdF := h.inF.1
      have hr0 := ok.room
      have hus : s.used ≤ 1125899906842624 := by
        have h1 := sum_le s.dlen 1048576 (Dsk.dlen_le ok) (fun _ => true) s.names
        rw [List.filter_eq_self.2 (fun _ _ => rfl)] at h1
        unfold Dsk.used
        omega
      obtain ⟨f, hi, hfm⟩ := Dsk.file_at ok hg
      have hfl := (ok.file f hfm).2
      replace hu := Lib.hid hu
      replace hn := Lib.hid hn
      by_cases hroom : s.room < s.used + x.size
      · have hR : s.append n.data.toList x.data.toList = (s, 6) := by unfold Dsk.append; rw [if_neg (by rw [ho]; decide), hg]; exact if_pos (by rw [hxs]; exact hroom)
        rw [hR]
        clear hR
        have ht : (s.room : Int) - (s.used : Int) < (x.size : Int) := by omega
        replace ho := Lib.hid ho
        replace hg := Lib.hid hg
        replace hi := Lib.hid hi
        clear hxs
        go_enter Try.func26, Try.ntmps26
        go_wp2_with fail
        refine hf.out.mono ?_
        rintro e w' ⟨rfl, rfl⟩
        go_wp2_with fail
        have hxc := @Ext.cell
        refine wp_region_ext (by kernel_rfl) (by kernel_rfl) ?_
        repeat (go_big_quiet_step ((first | (go_at_call 29; exact Calls.ext (hu.out _ (h.below (Ext.below _)))))))
        refine wpQuiet_nil ?_
        clear hxc
        intro wx hwx
        obtain ⟨x, hx⟩ := hwx
        have hb := x.below
        rw [← hx] at hb
        clear hx x
        have hDx := h.below hb
        have hKx := KeptBut.of_below hb (S := F)
        replace hKx := Lib.hid hKx
        clear hb
        go_wp2_with fail
        go_ret
        exact ⟨rfl, .of hKx.out hDx⟩
      · have ht : ¬ (s.room : Int) - (s.used : Int) < (x.size : Int) := by omega
        have ht2 : (x.size : Int) ≤ (s.room : Int) - (s.used : Int) := by omega
        rcases Bool.eq_false_or_eq_true s.burn.off with hb2 | hb2
        · have hR : s.append n.data.toList x.data.toList = (s.burn, 7) := by unfold Dsk.append; rw [if_neg (by rw [ho]; decide), hg]; exact (if_neg (by rw [hxs]; exact hroom)).trans (if_pos hb2)
          rw [hR]
          clear hR hxs
          replace ho := Lib.hid ho
          replace hg := Lib.hid hg
          replace hi := Lib.hid hi
          go_enter Try.func26, Try.ntmps26
          go_wp2_with fail
          refine hf.out.mono ?_
          rintro e w' ⟨rfl, rfl⟩
          go_wp2_with fail
          have hxc := @Ext.cell
          refine wp_region_ext (by kernel_rfl) (by kernel_rfl) ?_
          repeat (go_big_quiet_step ((first | (go_at_call 29; exact Calls.ext (hu.out _ (h.below (Ext.below _)))))))
          refine wpQuiet_nil ?_
          clear hxc
          intro wx hwx
          obtain ⟨x, hx⟩ := hwx
          have hb := x.below
          rw [← hx] at hb
          clear hx x
          have hDx := h.below hb
          have hKx := KeptBut.of_below hb (S := F)
          have hcall := burns_any hDx ok
          replace hKx := Lib.hid hKx
          replace hcall := Lib.hid hcall
          rw [hb2] at hcall
          simp only [errB, if_true] at hcall
          clear hb
          go_wp2_with fail
          refine hcall.out.mono ?_
          rintro e w2 ⟨rfl, hD2, hk2⟩
          have hK2 := hKx.out.trans hk2 (fun k _ e => e ▸ hdF)
          replace hK2 := Lib.hid hK2
          clear hk2
          go_wp2_with fail
          go_ret
          exact ⟨rfl, .of hK2.out hD2⟩
        · have hi1 : s.burn.files[i]? = some f := by rw [Dsk.burn_same.1]; exact hi
          have hR : s.append n.data.toList x.data.toList = (s.burn.setF i fun f => ⟨f.d ++ x.data.toList, f.k⟩, 0) := by unfold Dsk.append; rw [if_neg (by rw [ho]; decide), hg]; exact (if_neg (by rw [hxs]; exact hroom)).trans (if_neg (by rw [hb2]; decide))
          rw [hR, Dsk.setF_at _ hi1]
          clear hR hxs
          replace hi1 := Lib.hid hi1
          replace ho := Lib.hid ho
          replace hg := Lib.hid hg
          replace hi := Lib.hid hi
          go_enter Try.func26, Try.ntmps26
          go_wp2_with fail
          refine hf.out.mono ?_
          rintro e w' ⟨rfl, rfl⟩
          go_wp2_with fail
          have hxc := @Ext.cell
          refine wp_region_ext (by kernel_rfl) (by kernel_rfl) ?_
          repeat (go_big_quiet_step ((first | (go_at_call 29; exact Calls.ext (hu.out _ (h.below (Ext.below _)))))))
          refine wpQuiet_nil ?_
          clear hxc
          intro wx hwx
          obtain ⟨x, hx⟩ := hwx
          have hb := x.below
          rw [← hx] at hb
          clear hx x
          have hDx := h.below hb
          have hKx := KeptBut.of_below hb (S := F)
          have hcall := burns_any hDx ok
          replace hKx := Lib.hid hKx
          replace hcall := Lib.hid hcall
          rw [hb2] at hcall
          simp only [errB] at hcall
          clear hb
          go_wp2_with fail
          refine hcall.out.mono ?_
          rintro e w2 ⟨rfl, hD2, hk2⟩
          have hK2 := hKx.out.trans hk2 (fun k _ e => e ▸ hdF)
          have hdi := h.live.1 _ (getM_mem hg.out)
          obtain ⟨bi, oi⟩ := hD2.file i f hi1.out hdi
          have b0 := bi.cell 0
          have hbl := bi.lt
          replace hK2 := Lib.hid hK2
          clear hk2
          go_wp2_with (at_builtin; refine wpList_append_str rfl (.tmp 40) (.tmp 41) rfl 0 (L.row i) f.d rfl oi x rfl (by omega) (Nat.zero_le _) ?_; intro v3 w3 ho3 hg3 hat3; obtain ⟨A3, cap3, rfl⟩ := ho3.form; have c3 := World.cell?_of_block (a := (⟨L.blk i, 0, none⟩ : Addr)) (hg3.block (L.blk i) hbl (fun e => own_ne_blk oi bi (by decide) _ e.symm rfl)); have f3 := World.frozen?_of_block (a := (⟨L.blk i, 0, none⟩ : Addr)) (hg3.block (L.blk i) hbl (fun e => own_ne_blk oi bi (by decide) _ e.symm rfl)); rw [bi.cell 0] at c3; rw [bi.frozen 0] at f3)
          have hk3 : KeptBut w2 (w3.setCell ⟨L.blk i, 0, none⟩ (.slice A3 (f.d ++ x.data.toList).length cap3)) (fun k => k = L.blk i ∨ (L.row i).ownBlock = some k) := ((KeptBut.refl w2 _).then_grown hg3 (fun k e => .inr e)).then_set (.inl rfl)
          have hb3 := (bi.grown hg3 (fun e => own_ne_blk oi bi (by decide) _ e.symm rfl)).set_ 0 (.slice A3 (f.d ++ x.data.toList).length cap3)
          have hne3 : ∀ k, (Value.slice A3 (f.d ++ x.data.toList).length cap3).ownBlock = some k → k ≠ L.blk i := by
            intro k hk e
            rcases hat3 k hk with e2 | e2
            · exact own_ne_blk oi bi (by decide) _ e2 e
            · omega
          have hset := hD2.setFile (f' := ⟨f.d ++ x.data.toList, f.k⟩) (v := .slice A3 (f.d ++ x.data.toList).length cap3) hi1.out hk3 (by simpa using hb3) (own_block ho3 fun k hk' => Below.heap_setCell _ _ _ _ (hne3 k hk')) (fun k e => (hat3 k e).elim .inl (fun e2 => .inr ⟨by omega, by have := (own_lt ho3 k e).2; simpa [World.setCell] using this⟩)) hdi
          have hle : (f.d ++ x.data.toList).length = f.d.length + x.size := by rw [List.length_append]; rfl
          rw [hle] at hset
          have hs2 := hK2.out.size
          go_ret
          exact ⟨rfl, hK2.out.trans hset.2 (fun k _ e => e), _, hset.1.more (fun k hk => hk.elim .inl (fun e => .inr ⟨by omega, e.2⟩))⟩
end Go.Proofs.Ytkhicfoikkllmaa
