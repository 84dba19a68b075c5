/- DiskTwin: the walk. -/
import Derived.Test.YtkhicfoikkllmaaDLst
import Derived.Test.YtkhicfoikkllmaaSame
namespace Go.Proofs.Ytkhicfoikkllmaa
open Go.RowKit
set_option linter.unusedVariables false
set_option linter.unusedSimpArgs false
theorem Dsk.Like.refl {s : Dsk} (ok : s.Ok) (D1 D2 : Nat → Prop) : s.Like s D1 D2 :=
  ⟨rfl, rfl, rfl, rfl, rfl, fun i hi _ _ => ⟨_, List.getElem?_eq_getElem hi, List.getElem?_eq_getElem hi, (ok.file _ (List.getElem_mem hi)).2⟩⟩
theorem errsV_at {l : List Nat} {i e : Nat} (h : l[i]? = some e) : (errsV l)[i]? = some (.int .i64 (e : Nat)) := by
  unfold errsV
  rw [List.getElem?_map, h]
  rfl
theorem errs_form {w : World} {B : Nat} {v : Value} {l : List Nat} (h : w.ownsRow B 35 1 v l.length (errsV l)) : ∃ A cap, v = .slice A l.length cap ∧ ∀ i e, l[i]? = some e → ∃ g, A = some ⟨g, 0, none⟩ ∧ g < w.heap.size ∧ w.cell? ⟨g, i, none⟩ = some (.int .i64 (e : Nat)) := by
  rcases h.2 with ⟨e, hn⟩ | ⟨g, cap, cur, e, _, hh, h1, h2, _⟩
  · refine ⟨none, 0, by rw [e, hn], fun j c hj => ?_⟩
    rw [List.eq_nil_of_length_eq_zero hn] at hj
    simp at hj
  · refine ⟨some ⟨g, 0, none⟩, cap, e, fun j c hj => ?_⟩
    have hg : v.ownBlock = some g := by rw [e]; rfl
    have hl := (own_lt h g hg).2
    have hc := World.ownsRow.cells h hg _ _ (errsV_at hj)
    rw [show ((⟨g, 0, none⟩ : Addr).add j) = ⟨g, j, none⟩ from by cases j <;> simp [Addr.add]] at hc
    exact ⟨g, rfl, hl, hc⟩
set_option maxRecDepth 100000 in
set_option maxHeartbeats 8000000 in
theorem Twins_any (w : World) (room : Int) (A1 A2 : Option Addr) (l m : List MAct) (c1 c2 : Nat) (hl : ActsAt w.heap.size w A1 l) (hm : ActsAt w.heap.size w A2 m) (hll : l.length ≤ maxLen) (hml : m.length ≤ maxLen) :
    Calls Try.prog 5 #[.int .i64 room, .slice A1 l.length c1, .slice A2 m.length c2] w fun e w' => e = .returned (.bool true) ∧ Below w.heap.size w w' := by
  have hgl := Great_any _ A1 l c1 hl (Nat.le_refl _) hll
  have hawk := awake_any
  have hB0 := Below.refl w.heap.size w
  replace hgl := Lib.hid hgl
  replace hawk := Lib.hid hawk
  replace hl := Lib.hid hl
  replace hm := Lib.hid hm
  replace hB0 := Lib.hid hB0
  go_enter Try.func5, Try.ntmps5
  go_wp2_with fail
  refine hgl.out.mono ?_
  rintro e w2 ⟨r, rfl, hr, hb2⟩
  have hz2 := hb2.size
  cases r with
  | true =>
    replace hb2 := Lib.hid hb2
    go_wp2_with fail
    refine (hawk.out _).mono ?_
    rintro e wz ⟨rfl, hbz⟩
    have hfin := hb2.out.trans (hbz.mono hb2.out.size)
    replace hfin := Lib.hid hfin
    clear hbz
    go_wp2_with fail
    go_ret
    exact ⟨rfl, hfin.out⟩
  | false =>
  obtain ⟨hl120, hls⟩ := hr rfl
  have hgm := Great_any w2 A2 m c2 (hm.out.below hb2 (by omega)) (by omega) hml
  replace hls := Lib.hid hls
  replace hgm := Lib.hid hgm
  replace hb2 := Lib.hid hb2
  clear hr hgl
  go_wp2_with fail
  refine hgm.out.mono ?_
  rintro e w4 ⟨r, rfl, hr, hb3⟩
  have hB4 := hb2.out.trans (hb3.mono hz2)
  have hz4 := hB4.size
  clear hb3
  cases r with
  | true =>
    replace hB4 := Lib.hid hB4
    go_wp2_with fail
    refine (hawk.out _).mono ?_
    rintro e wz ⟨rfl, hbz⟩
    have hfin := hB4.out.trans (hbz.mono hB4.out.size)
    replace hfin := Lib.hid hfin
    clear hbz
    go_wp2_with fail
    go_ret
    exact ⟨rfl, hfin.out⟩
  | false =>
  obtain ⟨hm120, hms⟩ := hr rfl
  replace hms := Lib.hid hms
  replace hB4 := Lib.hid hB4
  clear hr hgm
  have hnew := New_dw room w4
  replace hnew := Lib.hid hnew
  go_wp2_with fail
  refine hnew.out.mono ?_
  rintro e w5 ⟨d, rfl, h5, b5⟩
  have hpl := plays_dw h5 (.new room) (Nat.zero_le _) A1 l c1 ((hl.out.below hB4.out (by omega)).below b5 (by omega)) (by omega) hl120 hls.out
  replace hpl := Lib.hid hpl
  go_wp2_with fail
  refine hpl.out.mono ?_
  rintro e w6 ⟨v, rfl, h6, b6⟩
  have g6 := Dsk.Good.acts (acts l) (.new room) (fun x hx => by
    unfold acts at hx
    obtain ⟨y, hy, rfl⟩ := List.mem_map.1 hx
    exact (hl.out.ok y hy).n)
  have hal' : (acts l).length = l.length := by unfold acts; simp
  rw [hal', Nat.zero_add] at g6
  generalize hsP : (Dsk.new room).acts (acts l) = sP at *
  clear hsP hal'
  have hz6 := h6.size
  have hB6 := hB4.out.trans ((b5.trans b6).mono hz4)
  obtain ⟨L6, h6⟩ := h6
  clear h5 b5 b6
  have ht := Twin_any h6 g6 (by omega) (fun k hk => hk.2)
  replace ht := Lib.hid ht
  replace h6 := Lib.hid h6
  replace hB6 := Lib.hid hB6
  replace g6 := Lib.hid g6
  go_wp2_with fail
  refine ht.out.mono ?_
  rintro e w7 ⟨t, Lt, rfl, ht7, hb7⟩
  have hz7 := hb7.size
  have h7 := h6.out.below hb7
  have hu := Twin_any h7 g6.out (by omega) (fun k hk => by have := hk.2; omega)
  have hB7 := hB6.out.trans (hb7.mono (by omega))
  replace hu := Lib.hid hu
  replace h7 := Lib.hid h7
  replace ht7 := Lib.hid ht7
  replace hB7 := Lib.hid hB7
  clear hb7
  go_wp2_with fail
  refine hu.out.mono ?_
  rintro e w8 ⟨u, Lu, rfl, hu8, hb8⟩
  have hz8 := hb8.size
  have h8 := h7.out.below hb8
  have ht8 := ht7.out.below hb8
  have hB8 := hB7.out.trans (hb8.mono (by omega))
  have hlo : sP.load ≤ 536870912 := by have := g6.out.load; omega
  have hs1 := Same_any h8 ht8 (Dsk.Like.refl g6.out.ok _ _) g6.out.ok hlo
  replace hs1 := Lib.hid hs1
  replace h8 := Lib.hid h8
  replace ht8 := Lib.hid ht8
  replace hu8 := Lib.hid hu8
  replace hB8 := Lib.hid hB8
  clear hb8
  go_wp2_with fail
  refine hs1.out.mono ?_
  rintro e w9 ⟨rfl, hb9⟩
  have hz9 := hb9.size
  have h9 := h8.out.below hb9
  have ht9 := ht8.out.below hb9
  have hu9 := hu8.out.below hb9
  have hB9 := hB8.out.trans (hb9.mono (by omega))
  have hs2 := Same_any ht9 hu9 (Dsk.Like.refl g6.out.ok _ _) g6.out.ok hlo
  replace hs2 := Lib.hid hs2
  replace h9 := Lib.hid h9
  replace ht9 := Lib.hid ht9
  replace hu9 := Lib.hid hu9
  replace hB9 := Lib.hid hB9
  clear hb9
  go_wp2_with fail
  refine hs2.out.mono ?_
  rintro e w10 ⟨rfl, hb10⟩
  have hz10 := hb10.size
  have h10 := h9.out.below hb10
  have ht10 := ht9.out.below hb10
  have hu10 := hu9.out.below hb10
  have hB10 := hB9.out.trans (hb10.mono (by omega))
  have hpt := plays_any ht10 g6.out (by omega) A2 m c2 (hm.out.below hB10 (by omega)) (by omega) (fun k hk => ⟨by omega, by omega⟩) hm120 hms.out
  replace hpt := Lib.hid hpt
  replace h10 := Lib.hid h10
  replace ht10 := Lib.hid ht10
  replace hu10 := Lib.hid hu10
  replace hB10 := Lib.hid hB10
  clear hb10
  go_wp2_with fail
  refine hpt.out.mono ?_
  rintro e w11 ⟨va, rfl, hBt⟩
  have hz11 := hBt.kept.size
  have h11 := h10.out.kept hBt.kept (fun k hk e => by omega)
  have hu11 := hu10.out.kept hBt.kept (fun k hk e => by omega)
  have hB11 := hB10.out.trans (hBt.kept.below (fun k e => by omega) (by omega))
  have hs3 := Same_any h11 hu11 (Dsk.Like.refl g6.out.ok _ _) g6.out.ok hlo
  replace hs3 := Lib.hid hs3
  replace h11 := Lib.hid h11
  replace hBt := Lib.hid hBt
  replace hB11 := Lib.hid hB11
  clear hu11
  go_wp2_with fail
  refine hs3.out.mono ?_
  rintro e w12 ⟨rfl, hb12⟩
  have hz12 := hb12.size
  have h12 := h11.out.below hb12
  have hB12 := hB11.out.trans (hb12.mono (by omega))
  have hpd := plays_any h12 g6.out (by omega) A2 m c2 (hm.out.below hB12 (by omega)) (C := w.heap.size) (by omega) (fun k hk => ⟨by omega, by omega⟩) hm120 hms.out
  have g12 := Dsk.Good.acts (acts m) g6.out (fun x hx => by
    unfold acts at hx
    obtain ⟨y, hy, rfl⟩ := List.mem_map.1 hx
    exact (hm.out.ok y hy).n)
  have hal' : (acts m).length = m.length := by unfold acts; simp
  rw [hal'] at g12
  clear hal'
  have hlo2 : (sP.acts (acts m)).load ≤ 536870912 := by have := g12.load; omega
  replace hpd := Lib.hid hpd
  replace g12 := Lib.hid g12
  replace hB12 := Lib.hid hB12
  clear h12
  go_wp2_with fail
  refine hpd.out.mono ?_
  rintro e w13 ⟨vb, rfl, hBd⟩
  have hz13 := hBd.kept.size
  obtain ⟨Ft, Lt2, htD, htF, _⟩ := hBt.out.ex
  obtain ⟨Fd, Ld2, hdD, hdF, _⟩ := hBd.ex
  have hk12 := (KeptBut.of_below hb12 (S := fun k => w4.heap.size ≤ k ∧ k < w6.heap.size)).trans hBd.kept (fun _ _ e => e)
  have htd := htD.kept hk12 (fun k hk e => by
    rcases (htF k hk).1 with h1 | h1 <;> omega)
  have hra := own_kept hBt.out.row hk12 (fun k hk e => by have := (own_lt hBt.out.row k hk).1; omega)
  obtain ⟨Aa, ca, rfl, hfa⟩ := errs_form hra
  obtain ⟨Ab, cb, rfl, hfb⟩ := errs_form hBd.row
  have hB13 := hB12.out.trans (hBd.kept.below (fun k e => by omega) (by omega))
  have hlen : (sP.says (acts m)).length = m.length := by rw [Dsk.says_len]; unfold acts; simp
  have hs4 : ∀ W, Below w13.heap.size w13 W → Calls Try.prog 22 #[.pointer (some ⟨d, 0, none⟩), .pointer (some ⟨t, 0, none⟩)] W fun e w' => e = .returned (.bool true) ∧ Below W.heap.size W w' := fun W hW =>
    Same_any (hdD.below hW) (htd.below hW) (Dsk.Like.refl g12.out.ok _ _) g12.out.ok hlo2
  generalize sP.says (acts m) = el at *
  generalize hn : el.length = n at *
  replace hs4 := Lib.hid hs4
  replace hfa := Lib.hid hfa
  replace hfb := Lib.hid hfb
  replace hB13 := Lib.hid hB13
  replace hBt := Lib.hid hBt
  replace hBd := Lib.hid hBd
  clear hdD htD htd hk12 hra hb12 htF hdF
  go_wp2_with fail
  go_loopw [12] (fun iv wr => ∃ i : Nat, i ≤ n ∧ iv = .int .i64 i ∧ Below w13.heap.size w13 wr) (fun iv _ => n - (intOf iv).toNat)
  case atStart => exact ⟨0, Nat.zero_le _, rfl, Below.refl _ _⟩
  case round =>
    obtain ⟨i, hi, rfl, hbr⟩ := hrel
    by_cases hlt : i < n
    · have hlt' : (i : Int) < n := by omega
      have hei : el[i]? = some el[i] := List.getElem?_eq_getElem (by omega)
      obtain ⟨g1, rfl, hg1, x1⟩ := hfa.out i _ hei
      obtain ⟨g2, rfl, hg2, x2⟩ := hfb.out i _ hei
      generalize el[i] = ee at *
      have q1 := (hbr.cell (p := ⟨g1, i, none⟩) hg1).trans x1
      have q2 := (hbr.cell (p := ⟨g2, i, none⟩) hg2).trans x2
      have hz := hbr.size
      have hg1' : g1 < wr.heap.size := by omega
      have hg2' : g2 < wr.heap.size := by omega
      replace hbr := Lib.hid hbr
      replace hei := Lib.hid hei
      clear x1 x2
      go_wp2_with fail
      have hxc := @Ext.cell
      have hxf := @Ext.frozen
      refine wp_hide (fun Q0 hQ0 => ?_)
      refine wp_region_line (fun w' => ∃ x : Ext _, w' = x.w) [some false, some false, some false, some false, some false, some false, some false, some false, some false] 0 (by kernel_rfl) (by kernel_rfl) ⟨⟨_, (Below.refl _ _).drew⟩, rfl⟩ ?_
      simp only [earlyL, tailL]
      repeat (first | ((with_reducible refine wpMix_p ?_); go_big_quiet_step (fail); refine wpQuiet_nil ?_) | ((with_reducible refine wpMix_e ?_); go_big_quiet_step ((first | fail)); refine wpQuiet_nil ?_))
      refine wpMix_nil ?_
      clear hxc hxf
      intro wx hwx
      obtain ⟨x, hx⟩ := hwx
      have hb := x.below
      rw [← hx] at hb
      clear hx x
      have hbx := hbr.out.trans (hb.mono hz)
      refine wpTail_nil ?_
      refine hQ0 _ _ ?_
      clear hQ0 Q0
      go_wp2_with fail
      go_roundw
      case rel => exact ⟨i + 1, by omega, by rfl, hbx⟩
      case measure => first | omega | (simp only [intOf]; omega)
    · obtain rfl : i = n := by omega
      have hlt' : ¬ (i : Int) < i := by omega
      have hsm := hs4.out _ hbr
      have hzr := hbr.size
      have hBr := hB13.out.trans (hbr.mono (by omega))
      replace hsm := Lib.hid hsm
      replace hBr := Lib.hid hBr
      replace hbr := Lib.hid hbr
      go_wp2_with fail
      refine hsm.out.mono ?_
      rintro e w14 ⟨rfl, hb14⟩
      have hBf := hBr.out.trans (hb14.mono (by have := hBr.out.size; omega))
      replace hBf := Lib.hid hBf
      clear hb14
      go_wp2_with fail
      refine (hawk.out _).mono ?_
      rintro e wz ⟨rfl, hbz⟩
      have hfin := hBf.out.trans (hbz.mono hBf.out.size)
      replace hfin := Lib.hid hfin
      clear hbz
      go_wp2_with fail
      go_ret
      exact ⟨rfl, hfin.out⟩
end Go.Proofs.Ytkhicfoikkllmaa
