/- The law WalFull, up to where the batch is told. A law's row, whatever its parameters: what a walk that leaves old memory as it was gives, and how the row closes. A row of acts, and a crash's choices, that came in, opened: their cells, as lists. What is laid of the library's variables, for the walks. A change's row whose call may read package variables: what the world is shaped like, too. Chapter 7's rows: what the program's variables hold; rounds that came in, opened. Contracts of package wal: Retire. -/
import Derived.Test.YtdbpfemkjfogoaaGreatDoorM21
import Derived.Test.YtdbpfemkjfogoaaGreatDoorRows
import Derived.WalkKit
import Derived.ProofKit
import Derived.OpenShut
import Derived.JoinedCond
import Derived.Carry
import Derived.Lib.SmallJoins
import Derived.Deep.Slices
import Derived.Deep.Fields
import Derived.ChangeSame
import Derived.Test.YtdbpfemkjfogoaaGreatDoorM15
import Derived.LaidMore
import Derived.Lay
import Derived.Stop.Joined
import Derived.Test.YtdbpfemkjfogoaaGreatDoorM07
import Derived.Lib.LaidTab
import Derived.Stop.LaidErr
import Derived.Handed
import Derived.HandedShaped
import Derived.Test.YtdbpfemkjfogoaaGreatDoorM20
namespace Go.Proofs.YtdbpfemkjfogoaaGreatDoor
open Go.RowKit
set_option linter.unusedVariables false
set_option linter.unusedSimpArgs false
set_option maxRecDepth 100000 in
set_option maxHeartbeats 8000000 in
theorem full_any (w : World) (hG : Glo w) (room : Int) (A : Option Addr) (l : List RM) (cap : Nat) (h : RmsAt w.heap.size w A l) (x : MB) (xA : Option Addr) (xc : Nat) (hxv : x.v = .slice xA x.b.ops.length xc) (hxr : OpsR w w.heap.size xA x.b.ops) (hxs : x.b.seq < 18446744073709551616) :
    Calls Tryz.prog 6 #[.int .i64 room, .slice A l.length cap, .agg #[.int .u64 (x.b.seq : Nat), .slice xA x.b.ops.length xc]] w fun e w' => e = .returned (.bool true) ∧ Below w.heap.size w w' := by
  obtain ⟨w0, hw0⟩ : ∃ w0, w0 = w.alloc (.cells #[.int .u64 (x.b.seq : Nat), .slice xA x.b.ops.length xc] 53) := ⟨_, rfl⟩
  have hb00 : Below w.heap.size w w0 := by rw [hw0]; exact (Below.refl _ _).alloc (Nat.le_refl _) _
  have hz00 : w0.heap.size = w.heap.size + 1 := by rw [hw0]; simp
  have hbox : Blk w0 w.heap.size 53 #[.int .u64 (x.b.seq : Nat), .slice xA x.b.ops.length xc] := by rw [hw0]; exact Blk.new w _ _
  have h0 := h.below hb00 (Nat.le_refl _)
  have hxr0 := hxr.below hb00 (Nat.le_refl _)
  have hgr := Lib.hid (greatR_any w0 A l cap h0 (by omega))
  have h7 := hG.size
  replace h := Lib.hid h
  replace h0 := Lib.hid h0
  replace hG := Lib.hid hG
  replace hxv := Lib.hid hxv
  replace hxr := Lib.hid hxr
  replace hxr0 := Lib.hid hxr0
  go_enter Tryz.func6, Tryz.ntmps6
  go_wp2_with fail
  rw [← hw0]
  replace hw0 := Lib.hid hw0
  refine hgr.out.mono ?_
  rintro e w1 ⟨rb, rfl, hrb, hb1⟩
  have hz1' := hb1.size
  have hbw1 : Below w.heap.size w w1 := hb00.trans (hb1.mono (by omega))
  cases rb with
  | true =>
    replace hb1 := Lib.hid hb1
    replace hbox := Lib.hid hbox
    clear hrb
    have haw := Lib.hid (wawake_any (hG.out.below hbw1 hG.out.size))
    have hbA := Lib.hid hbw1
    go_wp2_with fail
    refine haw.out.mono ?_
    rintro e wA ⟨rfl, hbW⟩
    have hfin : Below w.heap.size w wA := hbA.out.trans (hbW.mono hbA.out.size)
    replace hfin := Lib.hid hfin
    clear hbW
    go_wp2_with fail
    go_ret
    exact ⟨rfl, hfin.out⟩
  | false =>
    obtain ⟨hl8, hsm⟩ := hrb rfl
    clear hrb
    replace hsm := Lib.hid hsm
    have z0 : w1.cell? ⟨w.heap.size, 0, none⟩ = some (.int .u64 (x.b.seq : Nat)) := (hbox.below hb1 (by omega)).cell 0
    have z1 : w1.cell? ⟨w.heap.size, 1, none⟩ = some (.slice xA x.b.ops.length xc) := (hbox.below hb1 (by omega)).cell 1
    have zl : w.heap.size < w1.heap.size := by omega
    have hbg := Lib.hid (BGreat_any (seq := x.b.seq) (cap := xc) (hxr0.out.below hb1 (by omega)) (by omega : w.heap.size ≤ w1.heap.size))
    replace hb1 := Lib.hid hb1
    replace hbox := Lib.hid hbox
    replace hbw1 := Lib.hid hbw1
    go_wp2_with fail
    refine hbg.out.mono ?_
    rintro e w2 ⟨rb, rfl, hrb, hb2⟩
    have hy2 := hb2.size
    have hb02 : Below w0.heap.size w0 w2 := hb1.out.trans (hb2.mono (by omega))
    have hbw2 : Below w.heap.size w w2 := hb00.trans (hb02.mono (by omega))
    clear hb2 z0 z1 zl
    cases rb with
    | true =>
      clear hrb
      replace hb02 := Lib.hid hb02
      have haw := Lib.hid (wawake_any (hG.out.below hbw2 hG.out.size))
      have hbA := Lib.hid hbw2
      go_wp2_with fail
      refine haw.out.mono ?_
      rintro e wA ⟨rfl, hbW⟩
      have hfin : Below w.heap.size w wA := hbA.out.trans (hbW.mono hbA.out.size)
      replace hfin := Lib.hid hfin
      clear hbW
      go_wp2_with fail
      go_ret
      exact ⟨rfl, hfin.out⟩
    | false =>
      have hx60 := hrb rfl
      clear hrb
      have hnew := Lib.hid (New_dx (X := fun k => k < w0.heap.size) room w2 (fun k q => by omega))
      replace hb02 := Lib.hid hb02
      replace hbw2 := Lib.hid hbw2
      go_wp2_with fail
      refine hnew.out.mono ?_
      rintro e w3 ⟨d, rfl, hD3, hb3, hd3⟩
      have hI0 := Lib.hid (LawJ.start hD3 (hb02.out.trans (hb3.mono (by omega))))
      clear hb3 hD3 hnew hgr
      go_wp2_with fail
      go_loopw [8] (fun iv wr => ∃ (i : Nat) (s : Dsk), i ≤ l.length ∧ iv = .int .i64 (i : Nat) ∧ LawJ w0.heap.size w0 wr d s i) (fun iv _ => l.length - (intOf iv).toNat)
      case atStart => exact ⟨0, _, Nat.zero_le _, rfl, hI0.out⟩
      case round =>
        obtain ⟨i, s, hi, rfl, hI⟩ := hrel
        have hbr := hI.below
        have hwz := hbr.size
        have hG0 : Glo w0 := hG.out.below hb00 h7
        by_cases hlt : i < l.length
        · have hlt' : (i : Int) < l.length := by omega
          have hxi := List.getElem?_eq_getElem hlt
          have hok0 := h.out.ok _ (List.getElem_mem hlt)
          have hok := hok0.below hb00 (Nat.le_refl _)
          have hrs := hsm.out _ (List.getElem_mem hlt)
          obtain ⟨b, o, hAe, hbN, q0, q1, q2, q3, q4, q5⟩ := (h0.out.below (hbr.mono (by omega)) (Nat.le_refl _)).at_ hxi
          generalize l[i] = r at *
          have hbl : b < wr.heap.size := by omega
          have hgo := Lib.hid (hI.goes hG0 (by omega) (Nat.le_refl _) (by omega) (hok.more (by omega)) hrs)
          rw [hAe]
          replace hAe := Lib.hid hAe
          replace hxi := Lib.hid hxi
          replace hok := Lib.hid hok
          replace hok0 := Lib.hid hok0
          replace hrs := Lib.hid hrs
          replace hbr := Lib.hid hbr
          replace hI := Lib.hid hI
          replace hG0 := Lib.hid hG0
          go_wp2_with fail
          refine hgo.out.mono ?_
          rintro e w2 ⟨X, tv, uv, rfl, hDg, hXg, hNg, hbg, hgg⟩
          have hyg := hbg.size
          have hbx : Below w.heap.size w w2 := hb00.trans (hbg.mono (by omega))
          have p3 := (hbg.cell (p := ⟨b, o + i * 6 + 3, none⟩) (show b < w0.heap.size by omega)).trans ((hbr.out.cell (p := ⟨b, o + i * 6 + 3, none⟩) (show b < w0.heap.size by omega)).symm.trans q3)
          have p4 := (hbg.cell (p := ⟨b, o + i * 6 + 4, none⟩) (show b < w0.heap.size by omega)).trans ((hbr.out.cell (p := ⟨b, o + i * 6 + 4, none⟩) (show b < w0.heap.size by omega)).symm.trans q4)
          have p5 := (hbg.cell (p := ⟨b, o + i * 6 + 5, none⟩) (show b < w0.heap.size by omega)).trans ((hbr.out.cell (p := ⟨b, o + i * 6 + 5, none⟩) (show b < w0.heap.size by omega)).symm.trans q5)
          have hbl2 : b < w2.heap.size := by omega
          have hcr := Crash_dx hDg hXg hgg (by omega) r.cr r.KA r.PA r.kc r.pc ((hok.out.cr.below hbg (by omega)).at_ (by omega) hrs.out.2.2.1.1 hrs.out.2.2.1.2) (fun ad e => hNg _ (by have := hok.out.cr.under (Nat.le_refl _) ad e; omega))
          unfold craV at hcr
          replace hcr := Lib.hid hcr
          replace hbg := Lib.hid hbg
          replace hgg := Lib.hid hgg
          clear q0 q1 q2 q3 q4 q5 hgo hDg
          go_wp2_with fail
          refine hcr.out.mono ?_
          rintro e w3 ⟨rfl, hD3, hk3⟩
          have hz3 := hk3.size
          have hst := Lib.hid (Start_dx hD3 (fun k q => by have := hXg k q; omega))
          replace hk3 := Lib.hid hk3
          clear p3 p4 p5 hcr hD3
          go_wp2_with fail
          refine hst.out.mono ?_
          rintro e w4 ⟨rfl, hD4, hk4⟩
          have hz4 := hk4.size
          have hfu := Lib.hid (Fuse_dx hD4 (fun k q => by have := hXg k q; omega) 0)
          replace hk4 := Lib.hid hk4
          clear hst hD4
          go_wp2_with fail
          refine hfu.out.mono ?_
          rintro e w5 ⟨rfl, hD5, hk5⟩
          have hz5 := hk5.size
          have hk25 := (hk3.out.trans hk4.out (fun _ => id)).trans hk5 (fun _ => id)
          have hnx := Lib.hid (hI.out.next (by omega) (hok.out.more (by omega)) hrs.out hD5 hNg (hbg.out.trans (hk25.below hNg)) hgg.out)
          clear hk3 hk4 hk5 hk25 hfu hD5
          go_wp2_with fail
          exact ⟨⟨i + 1, _, by omega, by go_num, hnx.out⟩, by simp [intOf]; omega⟩
        · have hlt' : ¬ (i : Int) < l.length := by omega
          obtain ⟨l0, M, hB, hM, hcl⟩ := hI.bet
          have hfl := full_law hB hI.fuse (by omega) x.b
          have hrep := full_rep hB hI.fuse (by omega) x.b
          simp only at hfl
          obtain ⟨hraw, hlw⟩ := hB.cl.raws hB.dir hI.dx.rising hB.num (by omega)
          have hcall := Lib.hid (next_any hI.dx (fun k q => by omega) (fun k q => by omega) (hG0.below hbr (by omega)) hI.good (by omega) hraw (fun n hn => by have := hlw n hn; omega))
          have g1 : s.nextW.1.Good (101 * i + 2) := hI.good.beginW _
          obtain ⟨e0, eoff, erep, eadd⟩ := hfl
          have nb : nextN s.logsW < 18446744073709551616 := by
            unfold nextN
            cases hl' : s.logsW.getLast? with
            | none => simp
            | some q => simp; have := hlw q (List.mem_of_getLast? hl'); omega
          replace hbr := Lib.hid hbr
          replace hI := Lib.hid hI
          replace hG0 := Lib.hid hG0
          replace hB := Lib.hid hB
          replace e0 := Lib.hid e0
          replace erep := Lib.hid erep
          replace eadd := Lib.hid eadd
          replace eoff := Lib.hid eoff
          replace hrep := Lib.hid hrep
          replace nb := Lib.hid nb
          clear hraw hlw
          go_wp2_with fail
          refine hcall.out.mono ?_
          rintro e w2 ⟨hB2, hk2⟩
          have hy2 := hk2.size
          rcases hB2 with ⟨_, lg, rfl, hlog2, hlg2, hD2⟩ | ⟨q, _, _⟩
          rotate_left
          · exact absurd e0.out q
          have hlt2 := Blk.lt hlog2
          have hb2 : Below w0.heap.size w0 w2 := hbr.out.trans (hk2.below (fun k q => q))
          have htw := Lib.hid (Twin_dx hD2 g1 (by omega))
          replace hlog2 := Lib.hid hlog2
          replace hb2 := Lib.hid hb2
          clear hk2 hcall hD2
          go_wp2_with fail
          refine htw.out.mono ?_
          rintro e w3 ⟨t, rfl, hT3, hD3, hb3⟩
          have hz3 := hb3.size
          have hlog3 := Blk.below hlog2.out hb3 (by omega)
          have hbw3 : Below w0.heap.size w0 w3 := hb2.out.trans (hb3.mono (by omega))
          have hrp := hrep.out.1
          obtain ⟨l1, hl1, hl1n⟩ := hrp.cl
          have hgv := Lib.hid (Replay_any hD3 (hG0.out.below hbw3 (by omega)) g1 (by omega) (by have := g1.names; omega) hl1.ne (hl1.raws hrp.dir hD3.rising hl1n (by omega)).1 eoff.out 0)
          replace hlog3 := Lib.hid hlog3
          replace hT3 := Lib.hid hT3
          replace hD3 := Lib.hid hD3
          replace hbw3 := Lib.hid hbw3
          clear hb3 htw hrp hlog2 hl1 hl1n
          go_wp2_with fail
          refine hgv.out.mono ?_
          rintro e w4 ⟨hv, hl', rfl, hm4, hml4, hb4⟩
          have hz4 := hb4.size
          rw [erep.out] at hml4
          simp only at hml4
          obtain ⟨hA4, hc4, rfl⟩ := hm4.form
          have hD4 : Dx (fun k => ((k < w0.heap.size ∨ k = lg) ∨ (w2.heap.size ≤ k ∧ k < w3.heap.size)) ∨ (w3.heap.size ≤ k ∧ k < w4.heap.size)) w4 d s.nextW.1 := hD3.out.grow hb4 (fun k q => q.imp id (fun q => q.1))
          have hT4 := hT3.out.keeps (Keeps.of_below (X := fun k => k < w3.heap.size) hb4 (fun k q => q)) (fun k _ q => q)
          have hlog4 := Blk.below hlog3.out hb4 (by omega)
          have hbw4 : Below w0.heap.size w0 w4 := hbw3.out.trans (hb4.mono (by omega))
          have hbw4' : Below w.heap.size w w4 := hb00.trans (hbw4.mono (by omega))
          have hbx4 := hbox.out.below hbw4 (by omega)
          have z0 : w4.cell? ⟨w.heap.size, 0, none⟩ = some (.int .u64 (x.b.seq : Nat)) := hbx4.cell 0
          have z1 : w4.cell? ⟨w.heap.size, 1, none⟩ = some (.slice xA x.b.ops.length xc) := hbx4.cell 1
          have zl : w.heap.size < w4.heap.size := by omega
          have had := (Add_any hD4 (fun k q => by omega) (fun k q => by omega) (hG0.out.below hbw4 (by omega)) g1 (by omega) nb.out hlog4 (by omega) x.b.seq xA xc w.heap.size x.b.ops hxs (hxr.out.below hbw4' (Nat.le_refl _)) (by omega) (by omega))
          obtain ⟨y, hy⟩ : ∃ y, s.nextW.1.addW (nextN s.logsW) x.b = y := ⟨_, rfl⟩
          have g5 : y.1.Good (101 * i + 2 + 2) := by rw [← hy]; exact g1.addW _ _
          have hrp5 := hrep.out.2
          rw [show (⟨x.b.seq, x.b.ops⟩ : BatE) = x.b from rfl, hy] at had
          rw [hy] at hrp5
          have eadd' := eadd.out
          rw [hy] at eadd'
          obtain ⟨s4, e4⟩ := y
          simp only at had eadd' hrp5 g5
          replace had := Lib.hid had
          replace hy := Lib.hid hy
          replace eadd' := Lib.hid eadd'
          replace hrp5 := Lib.hid hrp5
          replace hm4 := Lib.hid hm4
          replace hml4 := Lib.hid hml4
          replace hT4 := Lib.hid hT4
          replace hbw4 := Lib.hid hbw4
          replace hbw4' := Lib.hid hbw4'
          clear hb4 hgv hD4 hlog4 hlog3 hT3 hD3 hbx4
          go_wp2_with fail
          refine had.out.mono ?_
          rintro e w5 ⟨rfl, hD5, hk5⟩
          have hz5 := hk5.size
          have hT5 := hT4.out.keeps hk5 (fun k q1 q2 => by omega)
          have hbw5 : Below w0.heap.size w0 w5 := hbw4.out.trans (hk5.below (fun k q => by omega))
          have hm5 : OwnM w5 w3.heap.size (.slice hA4 hl'.length hc4) hl' := ⟨hk5.own hm4.out.row (fun k q => by have := own_lt hm4.out.row k q; omega), fun z hz => hk5.own (hm4.out.ops z hz) (fun k q => by have := own_lt (hm4.out.ops z hz) k q; omega)⟩
          obtain ⟨l2, hl2, hl2n⟩ := hrp5.out.cl
          have hgv := Lib.hid (Replay_any hD5 (hG0.out.below hbw5 (by omega)) g5 (by omega) (by have := g5.names; omega) hl2.ne (hl2.raws hrp5.out.dir hD5.rising hl2n (by omega)).1 hrp5.out.off 0)
          replace hT5 := Lib.hid hT5
          replace hm5 := Lib.hid hm5
          replace hbw5 := Lib.hid hbw5
          replace hD5 := Lib.hid hD5
          clear hk5 had hl2 hl2n z0 z1 zl hm4 hT4 hbw4
          go_wp2_with fail
          refine hgv.out.mono ?_
          rintro e w6 ⟨gv, gl, rfl, hm6, hml6, hb6⟩
          have hz6 := hb6.size
          obtain ⟨gA, gc, rfl⟩ := hm6.form
          have hD6 := hD5.out.grow hb6 (fun k => .inl)
          have hT6 := hT5.out.keeps (Keeps.of_below (X := fun k => k < w5.heap.size) hb6 (fun k q => q)) (fun k _ q => by omega)
          have hm56 := hm5.out.below hb6
          have hbw6 : Below w0.heap.size w0 w6 := hbw5.out.trans (hb6.mono (by omega))
          have hbx6 := hbox.out.below hbw6 (by omega)
          have z0 : w6.cell? ⟨w.heap.size, 0, none⟩ = some (.int .u64 (x.b.seq : Nat)) := hbx6.cell 0
          have z1 : w6.cell? ⟨w.heap.size, 1, none⟩ = some (.slice xA x.b.ops.length xc) := hbx6.cell 1
          have zl : w.heap.size < w6.heap.size := by omega
          have hxr6 := hxr0.out.below hbw6 (by omega)
          have hcontl : hl'.length = (contW l0).length := by rw [← hml4.out, List.length_map]
          clear hb6 hgv hT5 hm5 hD5 hbx6
          rcases eadd'.out with ⟨rfl, hrok⟩ | ⟨e40, he6, rfl⟩
          · rw [hrok] at hml6
            simp only at hml6
            replace hD6 := Lib.hid hD6
            replace hT6 := Lib.hid hT6
            replace hm6 := Lib.hid hm6
            replace hm56 := Lib.hid hm56
            replace hml6 := Lib.hid hml6
            replace hbw6 := Lib.hid hbw6
            replace hxr6 := Lib.hid hxr6
            replace hcontl := Lib.hid hcontl
            go_wp2_with fail
            have hxc := @Ext.cell
            have hxf := @Ext.frozen
            refine wp_hide (fun Q0 hQ0 => ?_)
            refine wp_region_line (fun w' => ∃ x : Ext _, w' = x.w) [some true, some true, none, some false, none, none, none, none, none, none, none, none] 1 (by kernel_rfl) (by kernel_rfl) ⟨⟨_, (Below.refl _ _).drew⟩, rfl⟩ ?_
            simp only [earlyL, tailL]
            repeat (first | ((with_reducible refine wpMix_p ?_); go_big_quiet_step (fail); refine wpQuiet_nil ?_) | ((with_reducible refine wpMix_e ?_); go_big_quiet_step ((first | fail)); refine wpQuiet_nil ?_))
            refine wpMix_nil ?_
            clear hxc hxf
            intro wx hwx
            obtain ⟨x, hx⟩ := hwx
            have hb := x.below
            rw [← hx] at hb
            clear hx x
            have hzx := hb.size
            have hmx := hm6.out.below hb
            have hhx := hm56.out.below hb
            have hbwx : Below w0.heap.size w0 wx := hbw6.out.trans (hb.mono (by omega))
            have hxrx := hxr6.out.below hb (by omega)
            have hln : hl'.length ≤ 1000 := by have := hcontl.out; omega
            have hgiv := Lib.hid (given_any (c := hc4) (Reads.of_own hhx.row) (Nat.le_refl _) (fun z hz => by
              obtain ⟨A, c, e⟩ := (hhx.ops z hz).form
              exact ⟨A, c, e⟩) (by omega))
            replace hmx := Lib.hid hmx
            replace hhx := Lib.hid hhx
            replace hbwx := Lib.hid hbwx
            replace hxrx := Lib.hid hxrx
            refine wpTail_step ?_
            intro Q1 hQ1
            go_wp2_with fail
            refine hgiv.out.mono ?_
            rintro e w7 ⟨A3, c3, rfl, hrow7, hb7⟩
            have hz7 := hb7.size
            have hC7 : Below w6.heap.size w6 w7 := hb.trans (hb7.mono hb.size)
            replace hrow7 := Lib.hid hrow7
            replace hC7 := Lib.hid hC7
            replace hb7 := Lib.hid hb7
            clear hgiv hb
            go_wp2_with fail
            refine hQ1 _ _ rfl (fun _ => ⟨⟨_, hC7.out⟩, rfl⟩) ?_
            clear hQ1 Q1
            refine wpTail_step ?_
            intro Q1 hQ1
            go_wp2_with fail
            refine (Given_any x.b.seq x.b.ops.length xc xA w7).mono ?_
            rintro e w8 ⟨rfl, hb8⟩
            have hz8 := hb8.size
            replace hb8 := Lib.hid hb8
            go_wp2_with fail
            refine hQ1 _ _ rfl (fun h => absurd h (by decide)) ?_
            clear hQ1 Q1
            refine wpTail_step ?_
            intro Q1 hQ1
            go_wp2_with fail
            refine hQ1 _ _ rfl (fun h => absurd h (by decide)) ?_
            clear hQ1 Q1
            have hrow8 := own_below2 hrow7.out hb8.out
            have hrow9 := own_below2 hrow8 ((Below.refl w8.heap.size w8).alloc (Nat.le_refl _) (.cells #[.int .u64 (x.b.seq : Nat), .slice xA x.b.ops.length xc] 81))
            have hrd := new_bat w8 81 x
            rw [hxv.out] at hrd
            obtain ⟨i0, hi0, hi1, hi2, hi3⟩ := info_parts rbat_info
            refine wpTail_step ?_
            intro Q1 hQ1
            have hbx8 : Below wx.heap.size wx w8 := hb7.out.trans (hb8.out.mono hz7)
            replace hrow8 := Lib.hid hrow8
            replace hbx8 := Lib.hid hbx8
            go_wp2_with (at_builtin; refine wpList_append_any _ rfl (.tmp 86) (.tmp 89) _ rfl wx.heap.size 81 i0 _ 2 32 Tryz.underlying44 hi0 hi1 hi2 hi3 rfl (by omega) _ hl'.length (mbV hl') rfl hrow9 (w8.heap.size + 1) (some ⟨w8.heap.size, 0, none⟩) 1 1 (mbC x) rfl ?c0 ?c1 ?c2 ?c3 ?c4 ?_; rotate_left 5; intro v2 w9 ho9 hg9 hat9; obtain ⟨A5, c5, rfl, hall⟩ := giv_arm hbx8.out (Nat.le_refl _) hrow8.out ho9 hg9; clear ho9 hg9 hat9)
            case c1 => intro u hu; simp [mbC] at hu; rcases hu with rfl | rfl; rfl; rw [hxv.out]; rfl
            case c2 => simp only [maxLen]; omega
            case c3 => omega
            case c4 => first | omega | (simp; omega)
            obtain ⟨hb9, hrow9'⟩ := hall.out
            have hz9 := hb9.size
            replace hb9 := Lib.hid hb9
            replace hrow9' := Lib.hid hrow9'
            refine hQ1 _ _ rfl (fun h => absurd h (by decide)) ?_
            clear hQ1 Q1 hrow9 hrd
            refine wpTail_step ?_
            intro Q1 hQ1
            have hlen : gl.length = hl'.length + 1 := by
              have := congrArg List.length hml6.out
              rw [List.length_map, List.length_append, List.length_singleton, ← hcontl.out] at this
              exact this
            have hm9 := hmx.out.below hb9.out
            have hh9 := hhx.out.below hb9.out
            have hrow10 := hrow9'.out
            rw [List.length_append, List.length_singleton] at hrow10
            rw [hlen] at hm9
            rw [hlen]
            have hbw9 : Below w0.heap.size w0 w9 := hbwx.out.trans (hb9.out.mono (by omega))
            have hxr9 := hxrx.out.below hb9.out (by omega)
            have hhe : gl.map (·.b) = (hl' ++ [x]).map (·.b) := by rw [hml6.out, List.map_append, hml4.out]; rfl
            have hsame := Lib.hid (BSame_any (ca := gc) (cb := c5) (n := hl'.length + 1) (Reads.of_own (hlen ▸ hm9.row)) (Reads.of_own hrow10) (Nat.le_refl _) hlen (by simp) (by omega) (fun z hz => .of_own (hm9.ops z hz)) (fun z hz => by
              rcases List.mem_append.1 hz with hz | hz
              · exact .of_own (hh9.ops z hz)
              · rw [List.mem_singleton.1 hz]
                exact ⟨xA, xc, hxv.out, Reads.more hxr9 (by omega)⟩) hhe (fun z hz => by
              have h1 : z.b ∈ (hl' ++ [x]).map (·.b) := hhe ▸ List.mem_map_of_mem hz
              obtain ⟨y, hy, e⟩ := List.mem_map.1 h1
              rw [← e]
              rcases List.mem_append.1 hy with hy | hy
              · have h2 : y.b ∈ contW l0 := hml4.out ▸ List.mem_map_of_mem hy
                have := chk_len (contW_chk _ h2)
                omega
              · rw [List.mem_singleton.1 hy]; omega))
            replace hlen := Lib.hid hlen
            replace hbw9 := Lib.hid hbw9
            clear hm9 hh9 hrow10 hhe hxr9
            go_wp2_with fail
            refine hsame.out.mono ?_
            rintro e w10 ⟨rfl, hb10⟩
            have hbw10 : Below w0.heap.size w0 w10 := hbw9.out.trans (hb10.mono (by omega))
            have hz10 := hb10.size
            replace hbw10 := Lib.hid hbw10
            clear hb10
            go_wp2_with fail
            refine hQ1 _ _ rfl (fun h => absurd h (by decide)) ?_
            clear hQ1 Q1 hsame
            refine wpTail_step ?_
            intro Q1 hQ1
            go_wp2_with fail
            refine hQ1 _ _ rfl (fun h => absurd h (by decide)) ?_
            clear hQ1 Q1
            have haw := Lib.hid (wawake_any (hG0.out.below hbw10.out (by omega)))
            refine wpTail_step ?_
            intro Q1 hQ1
            go_wp2_with fail
            refine haw.out.mono ?_
            rintro e w11 ⟨rfl, hb11⟩
            have hfin : Below w.heap.size w w11 := (hb00.trans (hbw10.out.mono (by omega))).trans (hb11.mono (by omega))
            replace hfin := Lib.hid hfin
            clear hb11
            go_wp2_with fail
            refine hQ1 _ _ rfl (fun h => absurd h (by decide)) ?_
            clear hQ1 Q1 haw
            refine wpTail_step ?_
            intro Q1 hQ1
            go_wp2_with fail
            refine hQ1 _ _ rfl (fun h => absurd h (by decide)) ?_
            clear hQ1 Q1
            refine wpTail_step ?_
            intro Q1 hQ1
            go_wp2_with fail
            refine hQ1 _ _ rfl (fun h => absurd h (by decide)) ?_
            clear hQ1 Q1
            refine wpTail_nil ?_
            refine hQ0 _ _ ?_
            clear hQ0 Q0
            go_wp2_with fail
            go_ret
            exact ⟨rfl, hfin.out⟩
          · have he40 : ¬ ((e4 : Nat) : Int) = 0 := by omega
            have hsm := Lib.hid (Same_dx hD6 hT6 g1 (by omega))
            rw [erep.out] at hml6
            simp only at hml6
            replace hD6 := Lib.hid hD6
            replace hT6 := Lib.hid hT6
            replace hm6 := Lib.hid hm6
            replace hm56 := Lib.hid hm56
            replace hml6 := Lib.hid hml6
            replace hbw6 := Lib.hid hbw6
            replace hxr6 := Lib.hid hxr6
            replace hcontl := Lib.hid hcontl
            go_wp2_with fail
            refine hsm.out.mono ?_
            rintro e w7 ⟨rfl, hb7⟩
            have hz7 := hb7.size
            have hbw7 := hbw6.out.trans (hb7.mono (by omega))
            have y0 := (hb7.cell (p := ⟨w.heap.size, 0, none⟩) zl).trans z0
            have y1 := (hb7.cell (p := ⟨w.heap.size, 1, none⟩) zl).trans z1
            have yl : w.heap.size < w7.heap.size := by omega
            have hm67 := hm6.out.below hb7
            have hm57 := hm56.out.below hb7
            have hxr7 := hxr6.out.below hb7 (by omega)
            have hchk := Lib.hid (Check_any x.b.seq xA xc x.b.ops w7 hxs (Reads.more hxr7 (by omega)) (by omega))
            replace hbw7 := Lib.hid hbw7
            replace hm67 := Lib.hid hm67
            replace hm57 := Lib.hid hm57
            replace hxr7 := Lib.hid hxr7
            clear hb7 hsm z0 z1 zl
            have hlen : gl.length = hl'.length := by
              have := congrArg List.length (hml6.out.trans hml4.out.symm)
              rw [List.length_map, List.length_map] at this
              exact this
            have hhe : gl.map (·.b) = hl'.map (·.b) := hml6.out.trans hml4.out.symm
            have hgl := hml6
            have hln : hl'.length ≤ 1000 := by have := hcontl.out; omega
            rw [hlen] at hm67
            rw [hlen]
            replace hlen := Lib.hid hlen
            replace hhe := Lib.hid hhe
            by_cases he66 : e4 = 6
            · subst he66
              have hgiv := Lib.hid (given_any (c := hc4) (Reads.of_own hm57.out.row) (Nat.le_refl _) (fun z hz => by
                obtain ⟨A, c, e⟩ := (hm57.out.ops z hz).form
                exact ⟨A, c, e⟩) (by omega))
              have hgm := hm67
              have hhm := hm57
              have hbz := Lib.hid (hb00.trans (hbw7.out.mono (by omega)))
              clear hm67 hm57 hbw7 hchk y0 y1 yl
              go_wp2_with fail
              refine hgiv.out.mono ?_
              rintro e w9 ⟨A3, c3, rfl, hrow9, hb9⟩
              have hz9 := hb9.size
              have hgm9 := hgm.out.below hb9
              have hhm9 := hhm.out.below hb9
              have hb9' : Below w.heap.size w w9 := hbz.out.trans (hb9.mono hbz.out.size)
              have hsame := Lib.hid (BSame_any (ca := gc) (cb := c3) (n := hl'.length) (Reads.of_own (hlen.out ▸ hgm9.row)) (Reads.of_own hrow9) (Nat.le_refl _) hlen.out rfl (by omega) (fun z hz => .of_own (hgm9.ops z hz)) (fun z hz => .of_own (hhm9.ops z hz)) hhe.out (fun z hz => by
                have : z.b ∈ contW l0 := hgl.out ▸ List.mem_map_of_mem hz
                have := chk_len (contW_chk _ this)
                omega))
              replace hb9' := Lib.hid hb9'
              clear hrow9 hb9 hgm9 hhm9 hgiv
              go_wp2_with fail
              refine hsame.out.mono ?_
              rintro e w10 ⟨rfl, hb10⟩
              have hb10' : Below w.heap.size w w10 := hb9'.out.trans (hb10.mono hb9'.out.size)
              clear hb10 hsame
              have haw := Lib.hid (wawake_any (hG.out.below hb10' hG.out.size))
              have hbA := Lib.hid hb10'
              go_wp2_with fail
              refine haw.out.mono ?_
              rintro e wA ⟨rfl, hbW⟩
              have hfin : Below w.heap.size w wA := hbA.out.trans (hbW.mono hbA.out.size)
              replace hfin := Lib.hid hfin
              clear hbW
              go_wp2_with fail
              go_ret
              exact ⟨rfl, hfin.out⟩
            · have he66' : ¬ ((e4 : Nat) : Int) = 6 := by omega
              have hchk4 : chkB (⟨x.b.seq, x.b.ops⟩ : BatE) = e4 := (he6.resolve_left he66).symm
              rw [hchk4] at hchk
              go_wp2_with fail
              refine hchk.out.mono ?_
              rintro e w8 ⟨rfl, hb8⟩
              have hz8 := hb8.size
              have hgm := Lib.hid (hm67.out.below hb8)
              have hhm := Lib.hid (hm57.out.below hb8)
              have hgiv := Lib.hid (given_any (c := hc4) (Reads.of_own hhm.out.row) (Nat.le_refl _) (fun z hz => by
                obtain ⟨A, c, e⟩ := (hhm.out.ops z hz).form
                exact ⟨A, c, e⟩) (by omega))
              have hbz := Lib.hid ((hb00.trans (hbw7.out.mono (by omega))).trans (hb8.mono (by omega)))
              clear hm67 hm57 hbw7 hchk y0 y1 yl hb8
              go_wp2_with fail
              refine hgiv.out.mono ?_
              rintro e w9 ⟨A3, c3, rfl, hrow9, hb9⟩
              have hz9 := hb9.size
              have hgm9 := hgm.out.below hb9
              have hhm9 := hhm.out.below hb9
              have hb9' : Below w.heap.size w w9 := hbz.out.trans (hb9.mono hbz.out.size)
              have hsame := Lib.hid (BSame_any (ca := gc) (cb := c3) (n := hl'.length) (Reads.of_own (hlen.out ▸ hgm9.row)) (Reads.of_own hrow9) (Nat.le_refl _) hlen.out rfl (by omega) (fun z hz => .of_own (hgm9.ops z hz)) (fun z hz => .of_own (hhm9.ops z hz)) hhe.out (fun z hz => by
                have : z.b ∈ contW l0 := hgl.out ▸ List.mem_map_of_mem hz
                have := chk_len (contW_chk _ this)
                omega))
              replace hb9' := Lib.hid hb9'
              clear hrow9 hb9 hgm9 hhm9 hgiv
              go_wp2_with fail
              refine hsame.out.mono ?_
              rintro e w10 ⟨rfl, hb10⟩
              have hb10' : Below w.heap.size w w10 := hb9'.out.trans (hb10.mono hb9'.out.size)
              clear hb10 hsame
              have haw := Lib.hid (wawake_any (hG.out.below hb10' hG.out.size))
              have hbA := Lib.hid hb10'
              go_wp2_with fail
              refine haw.out.mono ?_
              rintro e wA ⟨rfl, hbW⟩
              have hfin : Below w.heap.size w wA := hbA.out.trans (hbW.mono hbA.out.size)
              replace hfin := Lib.hid hfin
              clear hbW
              go_wp2_with fail
              go_ret
              exact ⟨rfl, hfin.out⟩
end Go.Proofs.YtdbpfemkjfogoaaGreatDoor
namespace Go.Proofs.YtdbpfemkjfogoaaGreatDoor
open Go.ChangeShapes Go.WideShapes Go.ChangeAt Go.RowKit Go.Joins
set_option linter.unusedVariables false
theorem Tryzown : ownKnob Tryz.prog.godebug = none := by kernel_rfl
theorem Tryzlaid : laidOutB Tryz.prog = true := by kernel_rfl
section
variable {H : Type} {enc : TypeId × Value → H} {P : Program}
theorem trodAll_below (hl : laidOutB P = true) {W W' : World} (hb : Below W.heap.size W W') : ∀ (ts : List TypeId) (vs : List Value) (ds : List (DataW H)) (ps : List MemPlace),
    (∀ t ∈ ts, P.readableRec t = true ∧ t < P.types.size) → DataW.TrodAll enc P W 0 (fun _ => true) true ts vs ds ps → (∀ x ∈ ps, x.block < W.heap.size) →
    DataW.TrodAll enc P W' 0 (fun b => decide (b < W.heap.size)) true ts vs ds ps := by
  intro ts
  induction ts with
  | nil =>
    intro vs ds ps _ h _
    cases vs <;> cases ds <;> first | exact h | exact h.elim
  | cons t ts ih =>
    intro vs ds ps ht h hx
    cases vs with
    | nil => exact h.elim
    | cons v vs =>
      cases ds with
      | nil => exact h.elim
      | cons d ds =>
        obtain ⟨p, q, hd, hr, rfl⟩ := h
        have h0 := ht t (List.mem_cons_self ..)
        exact ⟨p, q, Below.trod hl h0.1 h0.2 hd hb (fun x hm => hx x (List.mem_append_left _ hm)), ih vs ds q (fun t' hm => ht t' (List.mem_cons_of_mem _ hm)) hr (fun x hm => hx x (List.mem_append_right _ hm)), rfl⟩
/-- A law that returned true over a world that has only grown. -/
theorem law_post (hl : laidOutB P = true) {f : Func} {s : ChangeSpec} {W W' : World} {args : Array Value} {ds gs : List (DataW H)} {before : List MemPlace} {tb : TypeId}
    (hbool : P.underlying tb = some .bool)
    (hW : DataW.Whole enc P f.params.toList s.vars false W args.toList ds gs before) (hv : s.vars = []) (hr : f.resultTypes = #[tb])
    (hread0 : (f.params.toList.all fun t => P.readableRec t && decide (t < P.types.size)) = true)
    (hfn : s.fn H (ds ++ gs) = { results := [.lit (.bool true)], args := ds }) (hb : Below W.heap.size W W') :
    s.post enc P f false true false false W args (.bool true) W' := by
  have hread : ∀ t ∈ f.params.toList, P.readableRec t = true ∧ t < P.types.size := fun t ht => by simpa using List.all_eq_true.1 hread0 t ht
  have hlt := hW.lt
  obtain ⟨p, q, hA, hV, hpq, hz, hnd⟩ := hW
  rw [hv] at hV
  cases gs with
  | cons _ _ => exact hV.elim
  | nil =>
    have hq : q = [] := hV
    subst hq
    refine ⟨ds, [], before, [], p, [], ⟨p, [], hA, by rw [hv]; exact rfl, hpq, hz, hnd⟩, ?_, ?_, ?_, ?_, fun h => by cases h⟩
    · rw [hfn, hr]
      exact trodAll_mk1 (shut_bool hbool true)
    · rw [hfn]
      exact trodAll_below hl hb _ _ _ _ hread hA (fun x hx => by simpa using hlt x (by rw [hpq]; exact List.mem_append_left _ hx))
    · rw [hfn, hv]; exact rfl
    · exact hb.frame _
end
end Go.Proofs.YtdbpfemkjfogoaaGreatDoor
namespace Go.Proofs.YtdbpfemkjfogoaaGreatDoor
open Go.ChangeShapes Go.WideShapes Go.ChangeAt Go.RowKit Go.Joins Go.Deep
open Go.ChangeMaps (open_string)
set_option linter.unusedVariables false
set_option linter.unusedSimpArgs false
theorem plain_of_cell {w : World} {a : Addr} {v : Value} (h : w.cell? a = some v) : a = ⟨a.block, a.off, none⟩ := by
  obtain ⟨b, o, s⟩ := a
  cases s with
  | none => rfl
  | some s =>
    unfold World.cell? at h
    split at h <;> simp at h
theorem list_of {T : Type} {P : Nat → T → Prop} : ∀ (n : Nat), (∀ i, i < n → ∃ x, P i x) → ∃ l : List T, l.length = n ∧ ∀ i x, l[i]? = some x → P i x
  | 0, _ => ⟨[], rfl, fun i x h => by simp at h⟩
  | n + 1, h => by
    obtain ⟨l, hl, hp⟩ := list_of n (fun i hi => h i (by omega))
    obtain ⟨x, hx⟩ := h n (by omega)
    refine ⟨l ++ [x], by simp [hl], fun i y hy => ?_⟩
    by_cases hi : i < l.length
    · rw [List.getElem?_append_left hi] at hy
      exact hp i y hy
    · rw [List.getElem?_append_right (by omega)] at hy
      have : i - l.length = 0 := by
        rcases Nat.eq_zero_or_pos (i - l.length) with h0 | h0
        · exact h0
        · rw [List.getElem?_eq_none (by simp; omega)] at hy; cases hy
      rw [this] at hy
      simp at hy
      subst hy
      have : i = n := by omega
      subst this
      exact hx
theorem mem_at {T : Type} {P : Nat → T → Prop} {l : List T} (h : ∀ i x, l[i]? = some x → P i x) {x : T} (hx : x ∈ l) : ∃ i, P i x := by
  obtain ⟨i, hi, rfl⟩ := List.mem_iff_getElem.1 hx
  exact ⟨i, h i _ (List.getElem?_eq_getElem hi)⟩
/-- A list of rows of so many values each. -/
theorem flat_at {T : Type} {f : T → List Value} {m : Nat} (hm : 0 < m) (hf : ∀ x, (f x).length = m) : ∀ (l : List T) (j : Nat) (u : Value), (l.flatMap f)[j]? = some u → ∃ x, l[j / m]? = some x ∧ (f x)[j % m]? = some u
  | [], j, u, h => by simp at h
  | a :: l, j, u, h => by
    rw [List.flatMap_cons] at h
    by_cases hj : j < m
    · rw [List.getElem?_append_left (by rw [hf]; exact hj)] at h
      exact ⟨a, by rw [Nat.div_eq_of_lt hj]; rfl, by rw [Nat.mod_eq_of_lt hj]; exact h⟩
    · rw [List.getElem?_append_right (by rw [hf]; omega), hf] at h
      obtain ⟨x, h1, h2⟩ := flat_at hm hf l (j - m) u h
      refine ⟨x, ?_, ?_⟩
      · have : j / m = (j - m) / m + 1 := by rw [Nat.div_eq_sub_div hm (by omega)]
        rw [this]
        simpa using h1
      · have : j % m = (j - m) % m := Nat.mod_eq_sub_mod (by omega)
        rw [this]
        exact h2
theorem flat_len {T : Type} {f : T → List Value} {m : Nat} (hf : ∀ x, (f x).length = m) (l : List T) : (l.flatMap f).length = l.length * m := by
  induction l with
  | nil => simp
  | cons a l ih => rw [List.flatMap_cons, List.length_append, hf, ih, List.length_cons, Nat.add_mul]; omega
theorem k3 : Tryz.prog.cellsOf 3 = 1 := by kernel_rfl
theorem k86 : Tryz.prog.cellsOf 152 = 1 := by kernel_rfl
theorem k23 : Tryz.prog.cellsOf 31 = 1 := by kernel_rfl
theorem k24 : Tryz.prog.cellsOf 32 = 1 := by kernel_rfl
theorem k5 : Tryz.prog.cellsOf 5 = 1 := by kernel_rfl
theorem k9 : Tryz.prog.cellsOf 9 = 1 := by kernel_rfl
theorem k26 : Tryz.prog.cellsOf 34 = 3 := by kernel_rfl
theorem keepV_flat : ∀ l : List Int, l.flatMap (fun x => [Value.int .i64 x]) = keepV l
  | [] => rfl
  | a :: l => by
    rw [List.flatMap_cons, keepV_flat l]
    rfl
section
variable {H : Type} {enc : TypeId × Value → H} {W : World}
/-- A row whose items are read one by one. -/
theorem row_open {T : Type} {t e m n : Nat} {v : Value} {y : DataW H × List MemPlace} (ht : Tryz.prog.underlying t = some (.slice e)) (hC : Tryz.prog.cellsOf e = m) (hm : 0 < m) (f : T → List Value) (hf : ∀ x, (f x).length = m) (Q : T → Prop)
    (hone : ∀ (n : Nat) (cs : List Value) (z : DataW H × List MemPlace), (∀ x ∈ z.2, x.block < W.heap.size) → DataW.trod enc Tryz.prog W 0 (fun _ => true) true n e cs = some z → ∃ x, cs = f x ∧ Q x)
    (h : DataW.trod enc Tryz.prog W 0 (fun _ => true) true n t [v] = some y) (hp : ∀ x ∈ y.2, x.block < W.heap.size) : ∃ (A : Option Addr) (l : List T) (cap : Nat), v = .slice A l.length cap ∧ Reads W W.heap.size m A l.length (l.flatMap f) ∧ l.length ≤ maxLen ∧ ∀ x ∈ l, Q x := by
  rcases open_slice ht h with ⟨hcs, hx⟩ | ⟨a, len, cap, mm, n', D, Pl, hcs, hb, hl, hcm, hmm, hx, hi⟩
  · simp at hcs
    subst hcs
    exact ⟨none, [], 0, rfl, Reads.none_, by simp, by simp⟩
  · simp at hcs
    subst hcs
    simp at hmm
    subst hmm
    by_cases hn0 : len = 0
    · subst hn0
      exact ⟨some a, [], mm, rfl, ⟨by simp, fun h => absurd h (by simp)⟩, by simp, by simp⟩
    have hall : ∀ k, k < len → ∃ x, Q x ∧ ∀ j u, (f x)[j]? = some u → W.cell? (a.add (k * m + j)) = some u := by
      intro k hk
      obtain ⟨cs', hc, ht'⟩ := hi k (by omega)
      rw [hC] at hc
      obtain ⟨_, hcl, hat⟩ := World.cells?_some hc
      obtain ⟨x, rfl, hq⟩ := hone n' cs' _ (fun z hz => hp z (by
        rw [hx]
        exact List.mem_append_right _ (List.mem_flatMap.2 ⟨k, List.mem_range.2 (by omega), hz⟩))) ht'
      refine ⟨x, hq, fun j u hu => ?_⟩
      have hj : j < m := by rw [← hf x]; exact (List.getElem?_eq_some_iff.1 hu).1
      have := hat j hj
      rw [Go.Deep.add_add] at this
      rw [this, hu]
    obtain ⟨x0, _, h0⟩ := hall 0 (by omega)
    have hf0 : (f x0)[0]? = some ((f x0)[0]'(by rw [hf]; exact hm)) := List.getElem?_eq_getElem (by rw [hf]; exact hm)
    have hc0 := h0 0 _ hf0
    have e0 : a.add (0 * m + 0) = a := by unfold Addr.add; simp
    rw [e0] at hc0
    have hpl := plain_of_cell hc0
    have hblk : a.block < W.heap.size := hp (.cell a.block a.off) (by
      rw [hx]
      refine List.mem_append_left _ ?_
      rw [hpl, hC]
      have : 0 < mm * m := Nat.mul_pos (by omega) hm
      simp [MemPlace.row]
      omega)
    obtain ⟨l, hl2, hP⟩ := list_of len hall
    refine ⟨some a, l, mm, by rw [hl2], ⟨flat_len hf l, fun hn => ⟨a, rfl, hblk, fun j u hu => ?_⟩⟩, by rw [hl2]; omega, fun x hx => ?_⟩
    · obtain ⟨x, h1, h2⟩ := flat_at hm hf l j u hu
      have := (hP _ _ h1).2 _ _ h2
      rw [show j / m * m + j % m = j from by rw [Nat.mul_comm]; exact Nat.div_add_mod j m] at this
      exact this
    · obtain ⟨i, hq, _⟩ := mem_at hP hx
      exact hq
set_option maxRecDepth 100000 in
theorem ints_open {n : Nat} {v : Value} {y : DataW H × List MemPlace} (h : DataW.trod enc Tryz.prog W 0 (fun _ => true) true n 31 [v] = some y) (hp : ∀ x ∈ y.2, x.block < W.heap.size) :
    ∃ (A : Option Addr) (l : List Int) (cap : Nat), v = .slice A l.length cap ∧ Reads W W.heap.size 1 A l.length (keepV l) ∧ l.length ≤ maxLen ∧ ∀ x ∈ l, -9223372036854775808 ≤ x ∧ x ≤ 9223372036854775807 := by
  obtain ⟨A, l, cap, e1, e2, e3, e4⟩ := row_open (T := Int) Tryz.underlying31 (by kernel_rfl : Tryz.prog.cellsOf 3 = 1) (by omega) (fun x => [.int .i64 x]) (fun _ => rfl) (fun x => -9223372036854775808 ≤ x ∧ x ≤ 9223372036854775807) (fun n cs z _ hz => by
    obtain ⟨x, e, _, hw⟩ := DataW.trod_int Tryz.underlying3 hz
    exact ⟨x, e, bounds_i64 hw⟩) h hp
  have hk := keepV_flat l
  exact ⟨A, l, cap, e1, by rw [← hk]; exact e2, e3, e4⟩
set_option maxRecDepth 100000 in
theorem spoils_open {n : Nat} {v : Value} {y : DataW H × List MemPlace} (h : DataW.trod enc Tryz.prog W 0 (fun _ => true) true n 32 [v] = some y) (hp : ∀ x ∈ y.2, x.block < W.heap.size) :
    ∃ (A : Option Addr) (l : List (Int × Nat)) (cap : Nat), v = .slice A l.length cap ∧ Reads W W.heap.size 2 A l.length (spoilV l) ∧ l.length ≤ maxLen ∧ ∀ p ∈ l, -9223372036854775808 ≤ p.1 ∧ p.1 ≤ 9223372036854775807 ∧ p.2 < 4294967296 := by
  refine row_open (T := Int × Nat) Tryz.underlying32 (by kernel_rfl : Tryz.prog.cellsOf 154 = 2) (by omega) (fun p => [.int .i64 p.1, .int .u32 (p.2 : Nat)]) (fun _ => rfl) (fun p => -9223372036854775808 ≤ p.1 ∧ p.1 ≤ 9223372036854775807 ∧ p.2 < 4294967296) (fun n cs z _ hz => ?_) h hp
  obtain ⟨y0, y1, n', _, hl, h0, h1⟩ := trod_struct2 Tryz.underlying154 hz
  rw [(by kernel_rfl : Tryz.prog.cellsOf 154 = 2)] at hl
  match cs, hl with
  | [c0, c1], _ =>
    replace h0 : DataW.trod enc Tryz.prog W 0 (fun _ => true) true n' 3 [c0] = some y0 := by
      have h := h0
      try dsimp only at h
      rw [k3] at h
      exact h
    replace h1 : DataW.trod enc Tryz.prog W 0 (fun _ => true) true n' 152 [c1] = some y1 := by
      have h := h1
      try dsimp only at h
      rw [k86] at h
      exact h
    obtain ⟨x0, e0, _, w0⟩ := DataW.trod_int Tryz.underlying3 h0
    obtain ⟨x1, e1, _, w1⟩ := DataW.trod_int Tryz.underlying152 h1
    simp at e0 e1
    subst e0 e1
    have b0 := bounds_i64 w0
    have b1 := bounds_u32 w1
    refine ⟨(x0, x1.toNat), ?_, b0.1, b0.2, by simp only []; omega⟩
    simp only []
    rw [show ((x1.toNat : Nat) : Int) = x1 from by omega]
set_option maxRecDepth 100000 in
/-- A crash's three cells. -/
theorem cra_open {n : Nat} {cs : List Value} {y : DataW H × List MemPlace} (h : DataW.trod enc Tryz.prog W 0 (fun _ => true) true n 34 cs = some y) (hp : ∀ x ∈ y.2, x.block < W.heap.size) :
    ∃ (c : Cra) (KA : Option Addr) (kc : Nat) (PA : Option Addr) (pc : Nat), cs = [.int .i64 c.names, .slice KA c.keep.length kc, .slice PA c.spoil.length pc] ∧ CraR W.heap.size W c KA PA ∧ c.keep.length ≤ maxLen ∧ c.spoil.length ≤ maxLen := by
  obtain ⟨y0, y1, y2, n', hx, hl, h0, h1, h2⟩ := trod_struct3 Tryz.underlying34 h
  rw [(by kernel_rfl : Tryz.prog.cellsOf 34 = 3)] at hl
  match cs, hl with
  | [c0, c1, c2], _ =>
    replace h0 : DataW.trod enc Tryz.prog W 0 (fun _ => true) true n' 3 [c0] = some y0 := by
      have h := h0
      try dsimp only at h
      rw [k3] at h
      exact h
    replace h1 : DataW.trod enc Tryz.prog W 0 (fun _ => true) true n' 31 [c1] = some y1 := by
      have h := h1
      try dsimp only at h
      rw [k23] at h
      exact h
    replace h2 : DataW.trod enc Tryz.prog W 0 (fun _ => true) true n' 32 [c2] = some y2 := by
      have h := h2
      try dsimp only at h
      rw [k24] at h
      exact h
    obtain ⟨x0, e0, _, w0⟩ := DataW.trod_int Tryz.underlying3 h0
    simp at e0
    subst e0
    rw [hx] at hp
    obtain ⟨KA, kl, kc, rfl, r1, l1, b1⟩ := ints_open h1 (fun x hx => hp x (by simp; exact .inr (.inl hx)))
    obtain ⟨PA, pl, pc, rfl, r2, l2, b2⟩ := spoils_open h2 (fun x hx => hp x (by simp; exact .inr (.inr hx)))
    exact ⟨⟨x0, kl, pl⟩, KA, kc, PA, pc, rfl, ⟨r1, r2, b1, b2⟩, l1, l2⟩
set_option maxRecDepth 100000 in
/-- An act's seven cells. -/
theorem act_open {n : Nat} {cs : List Value} {y : DataW H × List MemPlace} (h : DataW.trod enc Tryz.prog W 0 (fun _ => true) true n 69 cs = some y) (hp : ∀ x ∈ y.2, x.block < W.heap.size) :
    ∃ m : MAct, cs = mactC m ∧ MOk W.heap.size W m := by
  obtain ⟨xs, n', _, hx, hl, hlen, hf⟩ := DataW.trod_struct Tryz.underlying69 h
  rw [(by kernel_rfl : Tryz.prog.cellsOf 69 = 7)] at hl
  match cs, hl with
  | [c0, c1, c2, c3, c4, c5, c6], _ =>
    have h0 := hf 0 _ rfl
    have h1 := hf 1 _ rfl
    have h2 := hf 2 _ rfl
    have h3 := hf 3 _ rfl
    have h4 := hf 4 _ rfl
    match xs, hlen with
    | [z0, z1, z2, z3, z4], _ =>
      replace h0 : DataW.trod enc Tryz.prog W 0 (fun _ => true) true n' 5 [c0] = some z0 := by
        have h : DataW.trod enc Tryz.prog W 0 (fun _ => true) true n' 5 ((List.drop 0 [c0, c1, c2, c3, c4, c5, c6]).take (Tryz.prog.cellsOf 5)) = some z0 := h0
        rw [k5] at h
        exact h
      replace h1 : DataW.trod enc Tryz.prog W 0 (fun _ => true) true n' 9 [c1] = some z1 := by
        have h : DataW.trod enc Tryz.prog W 0 (fun _ => true) true n' 9 ((List.drop 1 [c0, c1, c2, c3, c4, c5, c6]).take (Tryz.prog.cellsOf 9)) = some z1 := h1
        rw [k9] at h
        exact h
      replace h2 : DataW.trod enc Tryz.prog W 0 (fun _ => true) true n' 9 [c2] = some z2 := by
        have h : DataW.trod enc Tryz.prog W 0 (fun _ => true) true n' 9 ((List.drop 2 [c0, c1, c2, c3, c4, c5, c6]).take (Tryz.prog.cellsOf 9)) = some z2 := h2
        rw [k9] at h
        exact h
      replace h3 : DataW.trod enc Tryz.prog W 0 (fun _ => true) true n' 3 [c3] = some z3 := by
        have h : DataW.trod enc Tryz.prog W 0 (fun _ => true) true n' 3 ((List.drop 3 [c0, c1, c2, c3, c4, c5, c6]).take (Tryz.prog.cellsOf 3)) = some z3 := h3
        rw [k3] at h
        exact h
      replace h4 : DataW.trod enc Tryz.prog W 0 (fun _ => true) true n' 34 [c4, c5, c6] = some z4 := by
        have h : DataW.trod enc Tryz.prog W 0 (fun _ => true) true n' 34 ((List.drop 4 [c0, c1, c2, c3, c4, c5, c6]).take (Tryz.prog.cellsOf 34)) = some z4 := h4
        rw [k26] at h
        exact h
      obtain ⟨x0, e0, _, w0⟩ := DataW.trod_int Tryz.underlying5 h0
      obtain ⟨x1, e1, _, w1⟩ := DataW.trod_string Tryz.underlying9 h1
      obtain ⟨x2, e2, _, w2⟩ := DataW.trod_string Tryz.underlying9 h2
      obtain ⟨x3, e3, _, w3⟩ := DataW.trod_int Tryz.underlying3 h3
      simp at e0 e1 e2 e3
      subst e0 e1 e2 e3
      have b0 := bounds_u8 w0
      have b3 := bounds_i64 w3
      rw [hx] at hp
      obtain ⟨c, KA, kc, PA, pc, e4, hr, l1, l2⟩ := cra_open h4 (fun x hx => hp x (by simp; exact .inr (.inr (.inr (.inr hx)))))
      simp at e4
      obtain ⟨rfl, rfl, rfl⟩ := e4
      refine ⟨⟨⟨x0.toNat, x1, x2, x3, c⟩, KA, kc, PA, pc⟩, ?_, ⟨hr, by simp only []; omega, w1, w2, b3.2, l1, l2⟩⟩
      unfold mactC
      simp only []
      rw [show ((x0.toNat : Nat) : Int) = x0 from by omega]
end
set_option maxRecDepth 100000 in
theorem acts_open {H : Type} {enc : TypeId × Value → H} {W : World} {base : Nat} {v : Value} {d : DataW H} {p : List MemPlace}
    (hv : Value.okWide Tryz.prog W .any base 122 v) (h : DataW.Trod enc Tryz.prog W 0 (fun _ => true) true 122 v d p) (hp : ∀ x ∈ p, x.block < W.heap.size) :
    ∃ A l cap, v = .slice A l.length cap ∧ ActsAt W.heap.size W A l ∧ l.length ≤ maxLen := by
  obtain ⟨A, n, cap, rfl⟩ := okWide_slice Tryz.underlying122 hv
  obtain ⟨fuel, hf⟩ := h
  obtain ⟨A', l, cap', e, hr, hl, hq⟩ := row_open (T := MAct) Tryz.underlying122 (by kernel_rfl : Tryz.prog.cellsOf 69 = 7) (by omega) mactC (fun _ => rfl) (MOk W.heap.size W) (fun n cs z hz h => act_open h hz) (y := (d, p)) (by simpa [Value.cells] using hf) hp
  exact ⟨A', l, cap', e, ⟨hr, hq⟩, hl⟩
set_option maxRecDepth 100000 in
theorem crash_open {H : Type} {enc : TypeId × Value → H} {W : World} {base : Nat} {v : Value} {d : DataW H} {p : List MemPlace}
    (hv : Value.okWide Tryz.prog W .any base 34 v) (h : DataW.Trod enc Tryz.prog W 0 (fun _ => true) true 34 v d p) (hp : ∀ x ∈ p, x.block < W.heap.size) :
    ∃ c KA kc PA pc, v = craV c KA kc PA pc ∧ CraR W.heap.size W c KA PA := by
  obtain ⟨cs, rfl, hsz⟩ := okWide_struct Tryz.underlying34 hv
  obtain ⟨fuel, hf⟩ := h
  obtain ⟨c, KA, kc, PA, pc, e, hr, _, _⟩ := cra_open (y := (d, p)) (by simpa [Value.cells] using hf) hp
  refine ⟨c, KA, kc, PA, pc, ?_, hr⟩
  unfold craV
  have : cs = #[.int .i64 c.names, .slice KA c.keep.length kc, .slice PA c.spoil.length pc] := by
    rw [← Array.toList_inj]
    simpa [Value.cells] using e
  rw [this]
end Go.Proofs.YtdbpfemkjfogoaaGreatDoor
namespace Go.Proofs.YtdbpfemkjfogoaaGreatDoor
open Go.RowKit Go.Lib Go.Sort
set_option linter.unusedVariables false
set_option linter.unusedSimpArgs false
set_option maxRecDepth 100000
theorem star_es : "*" ++ "errors.errorString" = "*errors.errorString" := by decide
theorem row_es (u : TypeId) (h : Tryz.prog.typeName? 3 u = some "*errors.errorString") : u = 284 :=
  typeName_ptr_named (nm := "errors.errorString") (by rw [star_es]; kernel_rfl) (by kernel_rfl) (by decide) u (by rw [star_es]; exact h)
theorem ty_syn : (Tryz.prog.globals[2]?).map (·.type) = some 171 := by kernel_rfl
theorem ty_ran : (Tryz.prog.globals[3]?).map (·.type) = some 171 := by kernel_rfl
theorem ty_tab : (Tryz.prog.globals[0]?).map (·.type) = some 269 := by kernel_rfl
theorem g_db : Tryz.prog.globalNamed "math/bits.deBruijn64tab" = some 6 := by kernel_rfl
theorem var_lt {P : Program} {g : Nat} {w : World} {n : String} {cs : Array Value} (hg : P.globalNamed n = some g) (h : w.var? P n = some cs) : g < w.heap.size := by
  unfold World.var? at h
  simp only [hg, Option.bind_some] at h
  rcases Nat.lt_or_ge g w.heap.size with h' | h'
  · exact h'
  · rw [Array.getElem?_eq_none h'] at h; simp at h
theorem laid5_of {w : World} (hL1 : laidMet Tryz.prog [("math/bits.deBruijn32tab", Rows.laid_math_bits_deBruijn32tab), ("math/bits.deBruijn64tab", Rows.laid_math_bits_deBruijn64tab), ("internal/strconv.uint64pow10", Rows.laid_internal_strconv_uint64pow10), ("strconv.ErrRange", Rows.laid_strconv_ErrRange), ("strconv.ErrSyntax", Rows.laid_strconv_ErrSyntax)] w) : Laid5 w ∧ 6 < w.heap.size := by
  have h2 := hL1.tail
  have h3 := h2.tail
  have h4 := h3.tail
  have h5 := h4.tail
  obtain ⟨a0, s0, hv0, -, -, -⟩ := laid_sentinel h5 g_syn ty_syn Tryz.underlying171 row_es Tryz.underlying284 Tryz.underlying286 rfl rfl Tryz.underlying9 (by kernel_rfl) (by kernel_rfl)
  obtain ⟨a1, s1, hv1, -, -, -⟩ := laid_sentinel h4 g_ran ty_ran Tryz.underlying171 row_es Tryz.underlying284 Tryz.underlying286 rfl rfl Tryz.underlying9 (by kernel_rfl) (by kernel_rfl)
  have htab : TabIs Tryz.prog w "internal/strconv.uint64pow10" .u64 pow10Tab := tabIs_of_head g_tab ty_tab Tryz.underlying269 Tryz.underlying42 (by kernel_rfl) (by kernel_rfl) h3
  refine ⟨⟨htab, ⟨_, _, hv0⟩, ⟨_, _, hv1⟩⟩, ?_⟩
  obtain ⟨ps, ⟨g', t', cs, fuel, p, q, hg', ht', hvar, _⟩, _⟩ := h2
  exact var_lt g_db hvar
end Go.Proofs.YtdbpfemkjfogoaaGreatDoor
namespace Go.Proofs.YtdbpfemkjfogoaaGreatDoor
open Go
set_option linter.unusedVariables false
theorem rih_and_shaped {H : Type} {enc : TypeId × Value → H} {a : Assume} {C : Checked} {os : Os} {f : FuncId} {fn : Func} {s : ChangeSpec} {conds : List PathCond} {apart fresh handsOn again : Bool} {X : World → Array Value → Prop}
    (hX : ∀ (w w' : World) (args : Array Value), w.heap = w'.heap → X w args → X w' args)
    (own : ownKnob C.prog.godebug = none) (started : os.Started) (noInit : C.prog.inits.idxOf? f = none) (hfn : C.prog.funcs[f]? = some fn)
    (witness : ∃ (w : World) (tape : Tape) (i : Input), w.os = os ∧ (w.forCall tape i).Shaped C.prog ∧ i.vars = [] ∧ Input.okWide C.prog (w.forCall tape i) .any w.heap.size f i ∧
      ((s.pre enc C.prog fn conds apart (w.forCall tape i).memory i.args ∧ X (w.forCall tape i).memory i.args) ∧ sizedMet enc C.prog fn (OpenSpec.ofChange s) apart (w.forCall tape i).memory i.args) ∧ a.holds C.prog (lone (Frame.enter C.prog f i.args .normal) [] (w.forCall tape i)))
    (contract : ∀ (W : World) (base : Nat) (args : Array Value) (ds gs : List (DataW H)) (before : List MemPlace),
      (∀ (j : Nat) t v, fn.params[j]? = some t → args[j]? = some v → Value.okWide C.prog W .any base t v) →
      DataW.Whole enc C.prog fn.params.toList s.vars apart W args.toList ds gs before →
      conds.all (PathCond.test C.prog ⟨fn.params.toList, ds, s.plain.varTypes C.prog, gs⟩) = true →
      (DataW.weightsEach C.prog (fn.params.toList ++ s.plain.varTypes C.prog) (ds ++ gs)).all (· ≤ reachBytes) = true → X W args →
      W.ShapedOpen C.prog →
      a.holds C.prog (lone (Frame.enter C.prog f args .normal) [] W) →
      Calls C.prog f args W fun e W' => ∃ v, e = .returned v ∧ s.post enc C.prog fn apart fresh handsOn again W args v W') :
    ReturnsInHanded a C os f .any (fun w args => (s.pre enc C.prog fn conds apart w args ∧ X w args) ∧ sizedMet enc C.prog fn (OpenSpec.ofChange s) apart w args) (s.post enc C.prog fn apart fresh handsOn again) := by
  refine returnsInHanded_of_calls own started noInit witness ?_
  intro w tape i _ hsh _ hok hpre hholds
  obtain ⟨_, _, _, fn', hfn', _, _, _, _, hval⟩ := hok
  obtain rfl : fn' = fn := Option.some.inj (hfn'.symm.trans hfn)
  obtain ⟨⟨⟨ds, gs, before, hw, hc⟩, hx⟩, hz⟩ := hpre
  refine (contract (w.forCall tape i) w.heap.size i.args ds gs before hval (DataW.Whole.of_heap (w' := w.forCall tape i) (by rfl) hw) hc (hz.weights hw) (hX _ _ _ (by rfl) hx) hsh hholds).mono fun e W' ⟨v, he, hp⟩ => ?_
  subst he
  exact ChangeSpec.post_blind hp
end Go.Proofs.YtdbpfemkjfogoaaGreatDoor
namespace Go.Proofs.YtdbpfemkjfogoaaGreatDoor
open Go.ChangeShapes Go.WideShapes Go.ChangeAt Go.RowKit Go.Joins Go.Deep
open Go.ChangeMaps (open_string)
set_option linter.unusedVariables false
set_option linter.unusedSimpArgs false
theorem crcT_lits : (List.range 16).map (fun i => (DataW.lit (.int .u32 (crcT i : Nat)) : DataW Unit)) = match (Rows.laid_copyhold_cell_table : DataW Unit) with
  | .agg l => l
  | _ => [] := rfl
set_option maxRecDepth 100000 in
theorem glo_of {W : World} (h : laidMetH Tryz.prog Rows.walLastsRow.laid W) : Glo W := by
  rw [MakeChecks.laidMetH_plain _ _ _ (by kernel_rfl)] at h
  have hL1 : laidMet Tryz.prog [("copyhold/cell.table", Rows.laid_copyhold_cell_table), ("math/bits.deBruijn32tab", Rows.laid_math_bits_deBruijn32tab), ("math/bits.deBruijn64tab", Rows.laid_math_bits_deBruijn64tab), ("internal/strconv.uint64pow10", Rows.laid_internal_strconv_uint64pow10), ("strconv.ErrRange", Rows.laid_strconv_ErrRange), ("strconv.ErrSyntax", Rows.laid_strconv_ErrSyntax)] W := h
  obtain ⟨h5, h6⟩ := laid5_of hL1.tail
  have h3 := hL1.tail.tail
  refine ⟨?_, h5, h6⟩
  obtain ⟨ps, ⟨g, t, cs, fuel, p, q, hg, ht, hv, hd, _, _⟩, _, _⟩ := h
  obtain rfl := Option.some.inj ((show Tryz.prog.globalNamed "copyhold/cell.table" = some 1 by kernel_rfl).symm.trans hg)
  obtain rfl := Option.some.inj ((show (Tryz.prog.globals[1]?).map (·.type) = some 273 by kernel_rfl).symm.trans ht)
  obtain ⟨xs, m, _, ex, _, hl, hel⟩ := DataW.trod_array Tryz.underlying273 hd
  intro r hr
  have c5 : Tryz.prog.cellsOf 152 = 1 := by kernel_rfl
  have hE := hel r hr
  rw [c5, Nat.mul_one, List.getElem?_eq_getElem (by omega)] at hE
  obtain ⟨z, e1, e2, _⟩ := DataW.trod_int Tryz.underlying152 hE
  have e3 : (xs.map (·.1)) = (List.range 16).map (fun i => (DataW.lit (.int .u32 (crcT i : Nat)) : DataW Unit)) := (DataW.agg.inj (Prod.mk.inj ex).1).symm.trans crcT_lits.symm
  have e4 : (xs.map (·.1))[r]? = ((List.range 16).map (fun i => (DataW.lit (.int .u32 (crcT i : Nat)) : DataW Unit)))[r]? := by rw [e3]
  rw [List.getElem?_map, List.getElem?_map, List.getElem?_eq_getElem (by omega : r < xs.length), List.getElem?_range hr, e2] at e4
  have hz : z = (crcT r : Nat) := by simpa using e4
  rw [World.var?_cell hg hv r, ← hz]
  have : cs.toList[r]? = some (.int .u32 z) := by
    have h0 : ((cs.toList.drop r).take 1)[0]? = some (.int .u32 z) := by rw [e1]; rfl
    simpa using h0
  simpa using this
theorem k_bool : Tryz.prog.cellsOf 4 = 1 := by kernel_rfl
theorem k_u64 : Tryz.prog.cellsOf 42 = 1 := by kernel_rfl
theorem k_ops : Tryz.prog.cellsOf 51 = 1 := by kernel_rfl
theorem k_bats : Tryz.prog.cellsOf 27 = 1 := by kernel_rfl
theorem k_bools : Tryz.prog.cellsOf 30 = 1 := by kernel_rfl
section
variable {H : Type} {enc : TypeId × Value → H} {W : World}
set_option maxRecDepth 100000 in
theorem op_open {n : Nat} {cs : List Value} {y : DataW H × List MemPlace} (h : DataW.trod enc Tryz.prog W 0 (fun _ => true) true n 60 cs = some y) : ∃ o : OpE, cs = opL o := by
  obtain ⟨y0, y1, y2, n', hx, hl, h0, h1, h2⟩ := trod_struct3 Tryz.underlying60 h
  rw [(by kernel_rfl : Tryz.prog.cellsOf 60 = 3)] at hl
  match cs, hl with
  | [c0, c1, c2], _ =>
    replace h0 : DataW.trod enc Tryz.prog W 0 (fun _ => true) true n' 9 [c0] = some y0 := by
      have h := h0
      try dsimp only at h
      rw [k9] at h
      exact h
    replace h1 : DataW.trod enc Tryz.prog W 0 (fun _ => true) true n' 9 [c1] = some y1 := by
      have h := h1
      try dsimp only at h
      rw [k9] at h
      exact h
    replace h2 : DataW.trod enc Tryz.prog W 0 (fun _ => true) true n' 4 [c2] = some y2 := by
      have h := h2
      try dsimp only at h
      rw [k_bool] at h
      exact h
    obtain ⟨x0, e0, _, w0⟩ := DataW.trod_string Tryz.underlying9 h0
    obtain ⟨x1, e1, _, w1⟩ := DataW.trod_string Tryz.underlying9 h1
    obtain ⟨x2, e2, _⟩ := DataW.trod_bool Tryz.underlying4 h2
    simp at e0 e1 e2
    subst e0 e1 e2
    exact ⟨⟨x0.data.toList, x1.data.toList, x2⟩, by simp only [opL, bs_of]⟩
set_option maxRecDepth 100000 in
theorem ops_open {n : Nat} {v : Value} {y : DataW H × List MemPlace} (h : DataW.trod enc Tryz.prog W 0 (fun _ => true) true n 51 [v] = some y) (hp : ∀ x ∈ y.2, x.block < W.heap.size) :
    ∃ (A : Option Addr) (l : List OpE) (cap : Nat), v = .slice A l.length cap ∧ OpsR W W.heap.size A l := by
  obtain ⟨A, l, cap, e1, e2, _, _⟩ := row_open (T := OpE) Tryz.underlying51 (by kernel_rfl : Tryz.prog.cellsOf 60 = 3) (by omega) opL opL_len (fun _ => True) (fun n cs z _ hz => by
    obtain ⟨o, e⟩ := op_open hz
    exact ⟨o, e, trivial⟩) h hp
  exact ⟨A, l, cap, e1, e2⟩
set_option maxRecDepth 100000 in
theorem bat_open {n : Nat} {cs : List Value} {y : DataW H × List MemPlace} (h : DataW.trod enc Tryz.prog W 0 (fun _ => true) true n 53 cs = some y) (hp : ∀ x ∈ y.2, x.block < W.heap.size) :
    ∃ x : MB, cs = mbC x ∧ ArgM W.heap.size W x := by
  obtain ⟨y0, y1, n', hx, hl, h0, h1⟩ := trod_struct2 Tryz.underlying53 h
  rw [(by kernel_rfl : Tryz.prog.cellsOf 53 = 2)] at hl
  match cs, hl with
  | [c0, c1], _ =>
    replace h0 : DataW.trod enc Tryz.prog W 0 (fun _ => true) true n' 42 [c0] = some y0 := by
      have h := h0
      try dsimp only at h
      rw [k_u64] at h
      exact h
    replace h1 : DataW.trod enc Tryz.prog W 0 (fun _ => true) true n' 51 [c1] = some y1 := by
      have h := h1
      try dsimp only at h
      rw [k_ops] at h
      exact h
    obtain ⟨x0, e0, _, w0⟩ := DataW.trod_int Tryz.underlying42 h0
    simp at e0
    subst e0
    have b0 := bounds_u64 w0
    rw [hx] at hp
    obtain ⟨A, l, cap, rfl, hr⟩ := ops_open h1 (fun x hx => hp x (by simp; exact .inr hx))
    refine ⟨⟨⟨x0.toNat, l⟩, .slice A l.length cap⟩, ?_, ⟨⟨A, cap, rfl, hr⟩, by simp only []; omega⟩⟩
    simp only [mbC]
    rw [show ((x0.toNat : Nat) : Int) = x0 from by omega]
theorem boolV_flat2 (l : List Bool) : l.flatMap (fun b => [Value.bool b]) = boolV l := (boolV_flat l).symm
set_option maxRecDepth 100000 in
theorem bools_open {n : Nat} {v : Value} {y : DataW H × List MemPlace} (h : DataW.trod enc Tryz.prog W 0 (fun _ => true) true n 30 [v] = some y) (hp : ∀ x ∈ y.2, x.block < W.heap.size) :
    ∃ (A : Option Addr) (l : List Bool) (cap : Nat), v = .slice A l.length cap ∧ Reads W W.heap.size 1 A l.length (boolV l) := by
  obtain ⟨A, l, cap, e1, e2, _, _⟩ := row_open (T := Bool) Tryz.underlying30 (by kernel_rfl : Tryz.prog.cellsOf 4 = 1) (by omega) (fun b => [.bool b]) (fun _ => rfl) (fun _ => True) (fun n cs z _ hz => by
    obtain ⟨x, e, _⟩ := DataW.trod_bool Tryz.underlying4 hz
    exact ⟨x, e, trivial⟩) h hp
  exact ⟨A, l, cap, e1, by rw [← boolV_flat2]; exact e2⟩
set_option maxRecDepth 100000 in
theorem round_open {n : Nat} {cs : List Value} {y : DataW H × List MemPlace} (h : DataW.trod enc Tryz.prog W 0 (fun _ => true) true n 36 cs = some y) (hp : ∀ x ∈ y.2, x.block < W.heap.size) :
    ∃ r : RM, cs = rmC r ∧ RmOk W.heap.size W r := by
  obtain ⟨xs, n', _, hx, hl, hlen, hf⟩ := DataW.trod_struct Tryz.underlying36 h
  rw [(by kernel_rfl : Tryz.prog.cellsOf 36 = 6)] at hl
  match cs, hl with
  | [c0, c1, c2, c3, c4, c5], _ =>
    have h0 := hf 0 _ rfl
    have h1 := hf 1 _ rfl
    have h2 := hf 2 _ rfl
    have h3 := hf 3 _ rfl
    match xs, hlen with
    | [z0, z1, z2, z3], _ =>
      replace h0 : DataW.trod enc Tryz.prog W 0 (fun _ => true) true n' 27 [c0] = some z0 := by
        have h : DataW.trod enc Tryz.prog W 0 (fun _ => true) true n' 27 ((List.drop 0 [c0, c1, c2, c3, c4, c5]).take (Tryz.prog.cellsOf 27)) = some z0 := h0
        rw [k_bats] at h
        exact h
      replace h1 : DataW.trod enc Tryz.prog W 0 (fun _ => true) true n' 30 [c1] = some z1 := by
        have h : DataW.trod enc Tryz.prog W 0 (fun _ => true) true n' 30 ((List.drop 1 [c0, c1, c2, c3, c4, c5]).take (Tryz.prog.cellsOf 30)) = some z1 := h1
        rw [k_bools] at h
        exact h
      replace h2 : DataW.trod enc Tryz.prog W 0 (fun _ => true) true n' 3 [c2] = some z2 := by
        have h : DataW.trod enc Tryz.prog W 0 (fun _ => true) true n' 3 ((List.drop 2 [c0, c1, c2, c3, c4, c5]).take (Tryz.prog.cellsOf 3)) = some z2 := h2
        rw [k3] at h
        exact h
      replace h3 : DataW.trod enc Tryz.prog W 0 (fun _ => true) true n' 34 [c3, c4, c5] = some z3 := by
        have h : DataW.trod enc Tryz.prog W 0 (fun _ => true) true n' 34 ((List.drop 3 [c0, c1, c2, c3, c4, c5]).take (Tryz.prog.cellsOf 34)) = some z3 := h3
        rw [k26] at h
        exact h
      rw [hx] at hp
      obtain ⟨BA, bl, bc, rfl, r0, _, q0⟩ := row_open (T := MB) Tryz.underlying27 (by kernel_rfl : Tryz.prog.cellsOf 53 = 2) (by omega) mbC mbC_len (ArgM W.heap.size W) (fun n cs z hz h => bat_open h hz) h0 (fun x hx => hp x (by simp; exact .inl hx))
      obtain ⟨NA, nl, nc, rfl, r1⟩ := bools_open h1 (fun x hx => hp x (by simp; exact .inr (.inl hx)))
      obtain ⟨x2, e2, _, w2⟩ := DataW.trod_int Tryz.underlying3 h2
      simp at e2
      subst e2
      have b2 := bounds_i64 w2
      obtain ⟨c, KA, kc, PA, pc, e4, hr, l1, l2⟩ := cra_open h3 (fun x hx => hp x (by simp; exact .inr (.inr (.inr hx))))
      simp at e4
      obtain ⟨rfl, rfl, rfl⟩ := e4
      exact ⟨⟨bl, BA, bc, nl, NA, nc, x2, c, KA, kc, PA, pc⟩, rfl, ⟨r0, q0, r1, hr, ⟨b2.2, b2.1⟩⟩⟩
end
set_option maxRecDepth 100000 in
theorem rounds_open {H : Type} {enc : TypeId × Value → H} {W : World} {base : Nat} {v : Value} {d : DataW H} {p : List MemPlace}
    (hv : Value.okWide Tryz.prog W .any base 22 v) (h : DataW.Trod enc Tryz.prog W 0 (fun _ => true) true 22 v d p) (hp : ∀ x ∈ p, x.block < W.heap.size) :
    ∃ A l cap, v = .slice A l.length cap ∧ RmsAt W.heap.size W A l := by
  obtain ⟨A, n, cap, rfl⟩ := okWide_slice Tryz.underlying22 hv
  obtain ⟨fuel, hf⟩ := h
  obtain ⟨A', l, cap', e, hr, hl, hq⟩ := row_open (T := RM) Tryz.underlying22 (by kernel_rfl : Tryz.prog.cellsOf 36 = 6) (by omega) rmC rmC_len (RmOk W.heap.size W) (fun n cs z hz h => round_open h hz) (y := (d, p)) (by simpa [Value.cells] using hf) hp
  exact ⟨A', l, cap', e, ⟨hr, hq⟩⟩
end Go.Proofs.YtdbpfemkjfogoaaGreatDoor
namespace Go.Proofs.YtdbpfemkjfogoaaGreatDoor
open Go.RowKit
set_option linter.unusedVariables false
set_option linter.unusedSimpArgs false
set_option maxHeartbeats 400000 in
theorem ret1_any {w : World} {gf f : Nat} (h : Blk w gf 42 #[.int .u64 (f : Nat)]) (n : Nat) :
    Calls Tryz.prog 60 #[.int .u64 (n : Nat), .pointer (some ⟨gf, 0, none⟩)] w fun e w' => e = .returned (.bool (decide (n < f))) ∧ w = w' := by
  have c0 : w.cell? ⟨gf, 0, none⟩ = some (.int .u64 (f : Nat)) := h.cell 0
  have hl := h.lt
  go_enter Tryz.func60, Tryz.ntmps60
  go_wp2
  go_ret
  exact ⟨by simp, rfl⟩
theorem Dsk.Good.goneW : ∀ (l : List Nat) {s : Dsk} {m : Nat}, s.Good m → (goneW l s).1.Good (m + l.length)
  | [], s, m, g => g
  | n :: r, s, m, g => by
    unfold Go.Proofs.YtdbpfemkjfogoaaGreatDoor.goneW
    split
    · exact ((g.delete (nameW n)).goneW r).more (by rw [List.length_cons]; omega)
    · exact (g.delete (nameW n)).more (by rw [List.length_cons]; omega)
theorem logsW_len (s : Dsk) : s.logsW.length ≤ s.names.length := by
  unfold Dsk.logsW
  rw [(List.mergeSort_perm _ _).length_eq]
  exact List.length_filterMap_le _ _
theorem Dsk.Good.retireW {s : Dsk} {m : Nat} (g : s.Good m) (k : Nat) : (s.retireW k).1.Good (2 * m) := by
  unfold Dsk.retireW
  split
  · exact g.more (by omega)
  · refine (g.goneW _).more ?_
    have h1 := logsW_len s
    have h2 := g.names
    have h3 := List.length_filter_le (fun n => decide (n < k)) s.logsW
    omega
set_option maxRecDepth 100000 in
set_option maxHeartbeats 4000000 in
theorem each_ret {X : Nat → Prop} {w : World} {d : Nat} {s : Dsk} {m : Nat} (h : Dx X w d s) (hX : ∀ k, X k → k < w.heap.size) (hX7 : ∀ k, k < 7 → X k) (hG : Glo w) (g : s.Good m) (hm : m ≤ 20000) (hne : ∀ p ∈ s.names, p.1 ≠ []) (hs : s.rawW.Pairwise (· ≤ ·))
    {gf f : Nat} (hgf : Blk w gf 42 #[.int .u64 (f : Nat)]) (hgX : X gf) :
    Calls Tryz.prog 43 #[.pointer (some ⟨d, 0, none⟩), .func (.func 60) #[] #[.pointer (some ⟨gf, 0, none⟩)], .func (.func 61) #[.pointer (some ⟨d, 0, none⟩)] #[]] w fun e w' =>
      e = .returned (.int .i64 ((s.retireW f).2 : Nat)) ∧ Dx X w' d (s.retireW f).1 ∧ Keeps X w w' := by
  have hread := Read_dx h g (by omega) ⟨#[]⟩ (by decide)
  rw [show (⟨#[]⟩ : ByteArray).data.toList = [] from rfl] at hread
  by_cases hoff : s.off = true
  · have e1 : s.read [] = ([], 7) := by unfold Dsk.read; rw [if_pos hoff]
    have e2 : s.retireW f = (s, 7) := by unfold Dsk.retireW; rw [if_pos hoff]
    rw [e1] at hread
    rw [e2]
    simp only at hread ⊢
    replace hread := Lib.hid hread
    replace h := Lib.hid h
    clear e1 e2
    go_enter Tryz.func43, Tryz.ntmps43
    go_wp2_with fail
    refine hread.out.mono ?_
    rintro e w' ⟨rfl, rfl⟩
    go_wp2_with fail
    go_ret
    exact ⟨rfl, h.out, .refl _ _⟩
  have hoff' : s.off = false := by simpa using hoff
  rw [Dsk.read_none hne hoff'] at hread
  simp only at hread
  replace hread := Lib.hid hread
  have hlogs := Lib.hid (Logs_any h hG g (by omega) hs)
  have hlog := fun n (hn : n ∈ s.logsW) => g.read_log hoff' hn
  have hret : s.retireW f = goneW (s.logsW.filter fun n => decide (n < f)) s := by unfold Dsk.retireW; rw [if_neg hoff]
  have hnl : s.logsW.length ≤ m := Nat.le_trans (logsW_len s) g.names
  obtain ⟨ns, hns⟩ : ∃ ns, s.logsW = ns := ⟨_, rfl⟩
  rw [hns] at hlogs hnl hlog hret
  obtain ⟨fin, hfin⟩ : ∃ fin, s.retireW f = fin := ⟨_, rfl⟩
  rw [hfin] at hret ⊢
  replace hlog := Lib.hid hlog
  replace hs := Lib.hid hs
  replace h := Lib.hid h
  replace hG := Lib.hid hG
  replace g := Lib.hid g
  replace hret := Lib.hid hret
  clear hns hfin
  go_enter Tryz.func43, Tryz.ntmps43
  go_wp2_with fail
  refine hread.out.mono ?_
  rintro e w' ⟨rfl, rfl⟩
  go_wp2_with fail
  refine hlogs.out.mono ?_
  rintro e w1 ⟨lv, rfl, hrow, hb1⟩
  obtain ⟨LA, Lc, hform⟩ : ∃ A c, lv = .slice A ns.length c := by
    rcases hrow.2 with ⟨rfl, e⟩ | ⟨gg, cap, cur, rfl, _⟩
    · exact ⟨none, 0, by rw [e]⟩
    · exact ⟨_, cap, rfl⟩
  subst hform
  have hz1' := hb1.size
  have hgf1 := hgf.below hb1 hgf.lt
  have hD1 : Dx (fun k => X k ∨ (w.heap.size ≤ k ∧ k < w1.heap.size)) w1 d s := h.out.grow hb1 (fun k q => q.imp id (fun q => q.1))
  have hXB : ∀ k, (X k ∨ (w.heap.size ≤ k ∧ k < w1.heap.size)) → k < w1.heap.size := fun k q => by
    rcases q with q | q
    · have := hX k q; omega
    · exact q.2
  have hk1 : Keeps X w w1 := Keeps.of_below hb1 hX
  have hrl := hrow.lt
  have hG1 := hG.out.below hb1 hG.out.size
  obtain ⟨N, hNN⟩ : ∃ N, ns.length = N := ⟨_, rfl⟩
  rw [hNN] at hnl ⊢
  replace hrow := Lib.hid hrow
  clear hb1
  replace hk1 := Lib.hid hk1
  replace hXB := Lib.hid hXB
  replace hrl := Lib.hid hrl
  replace hG1 := Lib.hid hG1
  go_wp2_with fail
  go_loopw [23] (fun iv wr => ∃ (k : Nat) (st : Dsk), k ≤ N ∧ iv = .int .i64 k ∧ Dx (fun k => X k ∨ (w.heap.size ≤ k ∧ k < w1.heap.size)) wr d st ∧ Keeps (fun k => X k ∨ (w.heap.size ≤ k ∧ k < w1.heap.size)) w1 wr ∧ st.Good (m + k) ∧ goneW ((ns.drop k).filter fun n => decide (n < f)) st = fin) (fun iv _ => N - (intOf iv).toNat)
  case atStart => exact ⟨0, s, Nat.zero_le _, rfl, hD1, .refl _ _, g.out, hret.out.symm⟩
  case round =>
    obtain ⟨k, st, hk, rfl, hD, hkr, gr, hgo⟩ := hrel
    have hzr := hkr.size
    by_cases hlt : k < N
    · have hlt' : (k : Int) < N := by omega
      have hkn : k < ns.length := by omega
      have hmem := List.getElem_mem hkn
      obtain ⟨data, hrdn, hdl, hn64⟩ := hlog.out _ hmem
      have hur : OwnU wr w.heap.size (.slice LA ns.length Lc) ns := hkr.own hrow.out (fun j hj => .inr (hrl.out j hj))
      obtain ⟨gg, cc, eform, hggl, hnat⟩ : ∃ gg cc, Value.slice LA ns.length Lc = .slice (some ⟨gg, 0, none⟩) ns.length cc ∧ gg < wr.heap.size ∧ NumsAt wr gg ns := by
        rcases hur.form with ⟨e, _⟩ | ⟨gg, cc, e1, e2, e3⟩
        · rw [e] at hkn; simp at hkn
        · exact ⟨gg, cc, e1, e2, e3⟩
      injection eform with eA _ eC
      subst eA eC
      have q0 := hnat k _ (List.getElem?_eq_getElem hkn)
      rw [List.drop_eq_getElem_cons hkn] at hgo
      generalize ns[k] = n at *
      have hgfr : Blk wr gf 42 #[.int .u64 (f : Nat)] := hkr.blk hgf1 (.inl hgX)
      have hGr := hG1.out.keeps hkr (fun k q => .inl (hX7 k q))
      have hsuch := Lib.hid (ret1_any hgfr n)
      have hname := Lib.hid (log_name n hn64 wr hGr)
      have hnmL := nameW_len hn64
      replace hnat := Lib.hid hnat
      replace hGr := Lib.hid hGr
      replace hur := Lib.hid hur
      clear hn64 hrdn hdl hgfr
      by_cases hf : n < f
      · have hfb : decide (n < f) = true := decide_eq_true hf
        rw [hfb] at hsuch
        rw [List.filter_cons_of_pos (by simpa using hf)] at hgo
        unfold goneW at hgo
        replace hgo := Lib.hid hgo
        replace hkr := Lib.hid hkr
        replace gr := Lib.hid gr
        go_wp2_with fail
        refine hsuch.out.mono ?_
        rintro e w2 ⟨rfl, rfl⟩
        go_wp2_with fail
        refine hname.out.mono ?_
        rintro e w3 ⟨rfl, hb3⟩
        have hz3 := hb3.size
        have hk3 := hkr.out.then_below hb3 (fun k q => by have := hXB.out k q; omega)
        have hD3 : Dx (fun k => X k ∨ (w.heap.size ≤ k ∧ k < w1.heap.size)) w3 d st := hD.grow hb3 (fun k => .inl)
        have hdel := Delete_dx hD3 (fun k q => by have := hXB.out k q; omega) gr.out (by omega) (bs (nameW n)) (by rw [bs_size]; omega)
        rw [bs_data] at hdel
        have g3 := gr.out.delete (nameW n)
        obtain ⟨y, hy⟩ : ∃ y, st.delete (nameW n) = y := ⟨_, rfl⟩
        have hgo' := hgo.out
        rw [hy] at hdel g3 hgo'
        obtain ⟨s2, e2⟩ := y
        simp only at hdel g3 hgo'
        replace hdel := Lib.hid hdel
        replace hk3 := Lib.hid hk3
        replace hgo' := Lib.hid hgo'
        replace g3 := Lib.hid g3
        clear hb3 hD hgo hy
        go_wp2_with fail
        refine hdel.out.mono ?_
        rintro e w4 ⟨rfl, hD4, hk4⟩
        have hk14 := hk3.out.trans hk4 (fun _ => id)
        by_cases he : e2 = 0
        · subst he
          have hgo2 := hgo'.out
          rw [if_pos rfl] at hgo2
          replace hgo2 := Lib.hid hgo2
          replace hk14 := Lib.hid hk14
          clear hk4
          go_wp2_with fail
          exact ⟨⟨k + 1, s2, by omega, by go_num, hD4, hk14.out, g3.out, hgo2.out⟩, by simp [intOf]; omega⟩
        · have hgo2 := hgo'.out
          rw [if_neg he] at hgo2
          have hne2 : ¬ (e2 : Int) = 0 := by omega
          replace hk14 := Lib.hid hk14
          clear hk4
          subst hgo2
          replace hD4 := Lib.hid hD4
          go_wp2_with fail
          go_ret
          exact ⟨rfl, hD4.out.less (fun k _ q => .inl q), hk1.out.trans hk14.out (fun k q => .inl q)⟩
      · have hfb : decide (n < f) = false := decide_eq_false hf
        rw [hfb] at hsuch
        rw [List.filter_cons_of_neg (by simpa using hf)] at hgo
        replace hgo := Lib.hid hgo
        replace hkr := Lib.hid hkr
        replace gr := Lib.hid gr
        replace hD := Lib.hid hD
        go_wp2_with fail
        refine hsuch.out.mono ?_
        rintro e w2 ⟨rfl, rfl⟩
        go_wp2_with fail
        exact ⟨⟨k + 1, st, by omega, by go_num, hD.out, hkr.out, gr.out.more (by omega), hgo.out⟩, by simp [intOf]; omega⟩
    · obtain rfl : k = N := by omega
      rw [List.drop_of_length_le (by omega), List.filter_nil] at hgo
      unfold goneW at hgo
      subst hgo
      replace hkr := Lib.hid hkr
      replace hD := Lib.hid hD
      go_wp2_with fail
      go_ret
      exact ⟨rfl, hD.out.less (fun k _ q => .inl q), hk1.out.trans hkr.out (fun k q => .inl q)⟩
set_option maxRecDepth 100000 in
set_option maxHeartbeats 2000000 in
theorem Retire_any {X : Nat → Prop} {w : World} {d : Nat} {s : Dsk} {m : Nat} (h : Dx X w d s) (hX : ∀ k, X k → k < w.heap.size) (hX7 : ∀ k, k < 7 → X k) (hG : Glo w) (g : s.Good m) (hm : m ≤ 20000) (hne : ∀ p ∈ s.names, p.1 ≠ []) (hs : s.rawW.Pairwise (· ≤ ·)) (f : Nat) :
    Calls Tryz.prog 23 #[.pointer (some ⟨d, 0, none⟩), .int .u64 (f : Nat)] w fun e w' => e = .returned (.int .i64 ((s.retireW f).2 : Nat)) ∧ Dx X w' d (s.retireW f).1 ∧ Keeps X w w' := by
  have hb0 : Below w.heap.size w (w.alloc (.cells #[.int .u64 (f : Nat)] 42)) := (Below.refl _ _).alloc (Nat.le_refl _) _
  have hgf : Blk (w.alloc (.cells #[.int .u64 (f : Nat)] 42)) w.heap.size 42 #[.int .u64 (f : Nat)] := Blk.new w _ _
  have heach := Lib.hid (each_ret (X := fun k => X k ∨ k = w.heap.size) (h.grow hb0 (fun k q => q.imp id (fun e => by omega))) (fun k q => by
    rcases q with q | q
    · have := hX k q; simp; omega
    · simp; omega) (fun k q => .inl (hX7 k q)) (hG.below hb0 hG.size) g hm hne hs hgf (.inr rfl))
  have hk0 := Lib.hid (Keeps.of_below hb0 hX)
  clear hb0 hgf
  go_enter Tryz.func23, Tryz.ntmps23
  go_wp2_with fail
  refine heach.out.mono ?_
  rintro e w1 ⟨rfl, hD, hk⟩
  have hk' := Lib.hid (hk0.out.trans hk (fun k q => .inl q))
  replace hD := Lib.hid hD
  clear hk
  go_wp2_with fail
  go_ret
  exact ⟨rfl, hD.out.less (fun k _ q => .inl q), hk'.out⟩
end Go.Proofs.YtdbpfemkjfogoaaGreatDoor
