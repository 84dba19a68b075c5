/- The law WalParts. Contracts: a nil disk, a nil log. The chapter's examples, plain. The law WalKnown. -/
import Derived.Test.YtdbpfemkjfogoaaGreatDoorM21
import Derived.Test.YtdbpfemkjfogoaaGreatDoorM22
import Derived.Test.YtdbpfemkjfogoaaGreatDoorM20
import Derived.Test.YtdbpfemkjfogoaaGreatDoorM15
namespace Go.Proofs.YtdbpfemkjfogoaaGreatDoor
open Go.RowKit
set_option linter.unusedVariables false
set_option linter.unusedSimpArgs false
theorem delete_names (s : Dsk) (n : Nm) : (s.delete n).1.names.Sublist s.names := by
  unfold Dsk.delete
  split
  · exact .refl _
  split
  · exact .refl _
  unfold Dsk.changed
  split
  · rw [show s.burn.names = s.names from by unfold Dsk.burn; split <;> rfl]
    exact .refl _
  · simp only
    rw [show s.burn.names = s.names from by unfold Dsk.burn; split <;> rfl]
    unfold doesC
    simp only [if_true]
    split
    · exact .refl _
    · exact List.filter_sublist
theorem goneW_names : ∀ (l : List Nat) (s : Dsk), (goneW l s).1.names.Sublist s.names
  | [], s => .refl _
  | n :: r, s => by
    unfold goneW
    split
    · exact (goneW_names r _).trans (delete_names s _)
    · exact delete_names s _
theorem retireW_names (s : Dsk) (k : Nat) : (s.retireW k).1.names.Sublist s.names := by
  unfold Dsk.retireW
  split
  · exact .refl _
  · exact goneW_names _ _
theorem retireW_raw {s : Dsk} (k : Nat) (h : s.rawW.Pairwise (· ≤ ·)) : (s.retireW k).1.rawW.Pairwise (· ≤ ·) := by
  unfold Dsk.rawW at *
  exact h.sublist ((retireW_names s k).filterMap _)
theorem retireW_off {s : Dsk} {l : List LogE} {M : Nat} (h : BetW s l M) (hf : s.fuse = 0) (k : Nat) : (s.retireW k).1.off = false := by
  have hv := h.cl.vw h.dir
  have hv2 := hv
  rw [srt_part k l h.cl.srt] at hv2
  obtain ⟨g1, g2, g3⟩ := goneW_vw _ hv2 h.off hf
  have hr : s.retireW k = goneW ((l.filter fun q => decide (q.1 < k)).map (·.1)) s := by
    unfold Dsk.retireW
    rw [if_neg (by rw [h.off]; decide), hv.logs, List.filter_map]
    rfl
  rw [hr]
  exact g2
theorem mbV_drop : ∀ (k : Nat) (l : List MB), (mbV l).drop (k * 2) = mbV (l.drop k)
  | 0, l => by simp
  | k + 1, [] => by simp [mbV]
  | k + 1, x :: l => by
    rw [show (k + 1) * 2 = k * 2 + 2 by omega, List.drop_succ_cons, ← mbV_drop k l]
    rfl
theorem logs_few {s : Dsk} {l : List LogE} {m : Nat} (h : Cl s l) (hd : s.Dir) (g : s.Good m) : l.length ≤ m := by
  have h1 := logsW_len s
  rw [h.logs hd, List.length_map] at h1
  exact Nat.le_trans h1 g.names
theorem contW_mem {l k : List LogE} (h : ∀ q ∈ k, q ∈ l) : ∀ b ∈ contW k, b ∈ contW l := by
  intro b hb
  unfold contW at *
  rw [List.mem_flatMap] at *
  obtain ⟨q, hq, hb⟩ := hb
  exact ⟨q, h q hq, hb⟩
set_option maxRecDepth 100000 in
set_option maxHeartbeats 8000000 in
theorem parts_any (w : World) (hG : Glo w) (room : Int) (A : Option Addr) (l : List RM) (cap : Nat) (h : RmsAt w.heap.size w A l) (fr : Nat) :
    Calls Tryz.prog 7 #[.int .i64 room, .slice A l.length cap, .int .u64 (fr : Nat)] w fun e w' => e = .returned (.bool true) ∧ Below w.heap.size w w' := by
  have hgr := Lib.hid (greatR_any w A l cap h (Nat.le_refl _))
  have h7 := hG.size
  replace h := Lib.hid h
  replace hG := Lib.hid hG
  obtain ⟨kk, hkk⟩ : ∃ k : Nat, fr % 12 = k := ⟨_, rfl⟩
  have hk12 : kk < 12 := by omega
  have hki : (fr : Int) % 12 = (kk : Nat) := by omega
  go_enter Tryz.func7, Tryz.ntmps7
  go_wp2_with fail
  refine hgr.out.mono ?_
  rintro e w1 ⟨rb, rfl, hrb, hb1⟩
  have hz1' := hb1.size
  cases rb with
  | true =>
    clear hrb
    have haw := Lib.hid (wawake_any (hG.out.below hb1 hG.out.size))
    have hbA := Lib.hid hb1
    go_wp2_with fail
    refine haw.out.mono ?_
    rintro e wA ⟨rfl, hbW⟩
    have hfin : Below w.heap.size w wA := hbA.out.trans (hbW.mono hbA.out.size)
    replace hfin := Lib.hid hfin
    clear hbW
    go_wp2_with fail
    go_ret
    exact ⟨rfl, hfin.out⟩
  | false =>
    obtain ⟨hl8, hsm⟩ := hrb rfl
    clear hrb
    replace hsm := Lib.hid hsm
    have hnew := Lib.hid (New_dx (X := fun k => k < w.heap.size) room w1 (fun k q => by omega))
    replace hb1 := Lib.hid hb1
    go_wp2_with fail
    refine hnew.out.mono ?_
    rintro e w3 ⟨d, rfl, hD3, hb3, hd3⟩
    have hI0 := Lib.hid (LawJ.start hD3 (hb1.out.trans (hb3.mono hz1')))
    clear hb3 hD3 hnew hgr
    go_wp2_with fail
    go_loopw [8] (fun iv wr => ∃ (i : Nat) (s : Dsk), i ≤ l.length ∧ iv = .int .i64 (i : Nat) ∧ LawJ w.heap.size w wr d s i) (fun iv _ => l.length - (intOf iv).toNat)
    case atStart => exact ⟨0, _, Nat.zero_le _, rfl, hI0.out⟩
    case round =>
      obtain ⟨i, s, hi, rfl, hI⟩ := hrel
      have hbr := hI.below
      have hwz := hbr.size
      by_cases hlt : i < l.length
      · have hlt' : (i : Int) < l.length := by omega
        have hxi := List.getElem?_eq_getElem hlt
        have hok := h.out.ok _ (List.getElem_mem hlt)
        have hrs := hsm.out _ (List.getElem_mem hlt)
        obtain ⟨b, o, hAe, hbN, q0, q1, q2, q3, q4, q5⟩ := (h.out.below hbr (Nat.le_refl _)).at_ hxi
        generalize l[i] = r at *
        have hbl : b < wr.heap.size := by omega
        have hgo := Lib.hid (hI.goes hG.out (by omega) (Nat.le_refl _) (by omega) hok hrs)
        rw [hAe]
        replace hAe := Lib.hid hAe
        replace hxi := Lib.hid hxi
        replace hok := Lib.hid hok
        replace hrs := Lib.hid hrs
        replace hbr := Lib.hid hbr
        replace hI := Lib.hid hI
        go_wp2_with fail
        refine hgo.out.mono ?_
        rintro e w2 ⟨X, tv, uv, rfl, hDg, hXg, hNg, hbg, hgg⟩
        have hyg := hbg.size
        have p3 := (hbg.cell (p := ⟨b, o + i * 6 + 3, none⟩) (show b < w.heap.size by omega)).trans ((hbr.out.cell (p := ⟨b, o + i * 6 + 3, none⟩) (show b < w.heap.size by omega)).symm.trans q3)
        have p4 := (hbg.cell (p := ⟨b, o + i * 6 + 4, none⟩) (show b < w.heap.size by omega)).trans ((hbr.out.cell (p := ⟨b, o + i * 6 + 4, none⟩) (show b < w.heap.size by omega)).symm.trans q4)
        have p5 := (hbg.cell (p := ⟨b, o + i * 6 + 5, none⟩) (show b < w.heap.size by omega)).trans ((hbr.out.cell (p := ⟨b, o + i * 6 + 5, none⟩) (show b < w.heap.size by omega)).symm.trans q5)
        have hbl2 : b < w2.heap.size := by omega
        have hcr := Crash_dx hDg hXg hgg (by omega) r.cr r.KA r.PA r.kc r.pc ((hok.out.cr.below hbg (by omega)).at_ (by omega) hrs.out.2.2.1.1 hrs.out.2.2.1.2) (fun ad e => hNg _ (by have := hok.out.cr.under (Nat.le_refl _) ad e; omega))
        unfold craV at hcr
        replace hcr := Lib.hid hcr
        replace hbg := Lib.hid hbg
        replace hgg := Lib.hid hgg
        clear q0 q1 q2 q3 q4 q5 hgo hDg
        go_wp2_with fail
        refine hcr.out.mono ?_
        rintro e w3 ⟨rfl, hD3, hk3⟩
        have hz3 := hk3.size
        have hst := Lib.hid (Start_dx hD3 (fun k q => by have := hXg k q; omega))
        replace hk3 := Lib.hid hk3
        clear p3 p4 p5 hcr hD3
        go_wp2_with fail
        refine hst.out.mono ?_
        rintro e w4 ⟨rfl, hD4, hk4⟩
        have hz4 := hk4.size
        have hfu := Lib.hid (Fuse_dx hD4 (fun k q => by have := hXg k q; omega) 0)
        replace hk4 := Lib.hid hk4
        clear hst hD4
        go_wp2_with fail
        refine hfu.out.mono ?_
        rintro e w5 ⟨rfl, hD5, hk5⟩
        have hz5 := hk5.size
        have hk25 := (hk3.out.trans hk4.out (fun _ => id)).trans hk5 (fun _ => id)
        have hnx := Lib.hid (hI.out.next (by omega) hok.out hrs.out hD5 hNg (hbg.out.trans (hk25.below hNg)) hgg.out)
        clear hk3 hk4 hk5 hk25 hfu hD5
        go_wp2_with fail
        exact ⟨⟨i + 1, _, by omega, by go_num, hnx.out⟩, by simp [intOf]; omega⟩
      · have hlt' : ¬ (i : Int) < l.length := by omega
        obtain ⟨l0, M, hB, hM, hcl⟩ := hI.bet
        have hpl := parts_law hB hI.fuse kk
        simp only at hpl
        obtain ⟨r0, rk, rle, rdrop, ret0, rrep, rlogs⟩ := hpl
        obtain ⟨hraw, hlw⟩ := hB.cl.raws hB.dir hI.dx.rising hB.num (by omega)
        have hoff' := retireW_off hB hI.fuse kk
        have hraw' := retireW_raw kk hraw
        have hne := hB.cl.ne
        have hne' : ∀ p ∈ (s.retireW kk).1.names, p.1 ≠ [] := fun p hp => hne p ((retireW_names s kk).subset hp)
        have hnle := hI.good.names
        have hl0 := Lib.hid (logs_few hB.cl hB.dir hI.good)
        have gk := hI.good.retireW kk
        have hnk : (s.retireW kk).1.names.length ≤ 808 := Nat.le_trans (retireW_names s kk).length_le (by omega)
        have hchk : ∀ b ∈ contW l0, b.ops.length ≤ 1073741824 := fun b hb => by
          have := chk_len (contW_chk _ hb)
          omega
        have hchk2 : ∀ b ∈ contW (l0.filter fun q => decide (kk ≤ q.1)), b.ops.length ≤ 1073741824 := fun b hb => hchk b (contW_mem (fun q hq => (List.mem_filter.1 hq).1) b hb)
        have hGr := hG.out.below hbr h7
        obtain ⟨CP, hCP⟩ : ∃ CP, contW (l0.filter fun q => decide (kk ≤ q.1)) = CP := ⟨_, rfl⟩
        rw [hCP] at rk rle rdrop rrep hchk2
        have htw := Lib.hid (Twin_dx hI.dx hI.good (by omega))
        replace hbr := Lib.hid hbr
        replace hI := Lib.hid hI
        replace hB := Lib.hid hB
        replace r0 := Lib.hid r0
        replace rk := Lib.hid rk
        replace rle := Lib.hid rle
        replace rdrop := Lib.hid rdrop
        replace ret0 := Lib.hid ret0
        replace rrep := Lib.hid rrep
        replace rlogs := Lib.hid rlogs
        replace hraw := Lib.hid hraw
        replace hlw := Lib.hid hlw
        replace hoff' := Lib.hid hoff'
        replace hraw' := Lib.hid hraw'
        replace hne := Lib.hid hne
        replace hne' := Lib.hid hne'
        replace gk := Lib.hid gk
        replace hchk := Lib.hid hchk
        replace hchk2 := Lib.hid hchk2
        replace hGr := Lib.hid hGr
        replace hCP := Lib.hid hCP
        go_wp2_with fail
        refine htw.out.mono ?_
        rintro e w2 ⟨t, rfl, hT2, hD2, hb2⟩
        have hz2 := hb2.size
        have hgv := Lib.hid (Replay_any hD2 (hGr.out.below hb2 hGr.out.size) hI.out.good (by omega) (by omega) hne.out hraw.out hB.out.off 0)
        replace hT2 := Lib.hid hT2
        replace hb2 := Lib.hid hb2
        clear hD2 htw
        go_wp2_with fail
        rw [hki]
        refine hgv.out.mono ?_
        rintro e w3 ⟨av, al, rfl, ha3, hal, hb3⟩
        have hz3 := hb3.size
        rw [r0.out] at hal
        simp only at hal
        obtain ⟨aA, ac, rfl⟩ := ha3.form
        have hall : al.length = (contW l0).length := by rw [← hal, List.length_map]
        have hb23 : Below wr.heap.size wr w3 := hb2.out.trans (hb3.mono hz2)
        have hD3 : Dx (fun k => k < w.heap.size ∨ (wr.heap.size ≤ k ∧ k < w3.heap.size)) w3 d s := hI.out.dx.grow hb23 (fun k q => q.imp id (fun q => q.1))
        have hgv := Lib.hid (Replay_any hD3 (hGr.out.below hb23 hGr.out.size) hI.out.good (by omega) (by omega) hne.out hraw.out hB.out.off kk)
        replace ha3 := Lib.hid ha3
        replace hal := Lib.hid hal
        replace hall := Lib.hid hall
        replace hb3 := Lib.hid hb3
        replace hb23 := Lib.hid hb23
        clear hD3
        go_wp2_with fail
        refine hgv.out.mono ?_
        rintro e w4 ⟨pv, pl, rfl, hp4, hpl, hb4⟩
        have hz4 := hb4.size
        rw [rk.out] at hpl
        simp only at hpl
        obtain ⟨pA, pc, rfl⟩ := hp4.form
        have hpll : pl.length = CP.length := by rw [← hpl, List.length_map]
        have hple : pl.length ≤ al.length := by rw [hpll, hall.out]; exact rle.out
        have hple' : ¬ (al.length : Int) < pl.length := by omega
        have ha4 := ha3.out.below hb4
        have hb24 : Below wr.heap.size wr w4 := hb23.out.trans (hb4.mono (by omega))
        have hlen : al.length ≤ 200 := by have := hall.out; omega
        obtain ⟨hac, hnil⟩ : al.length ≤ ac ∧ (al.length = 0 → ac = 0 ∨ 0 < ac) := by
          refine ⟨?_, fun _ => by omega⟩
          rcases ha4.row.2 with ⟨e, e0⟩ | ⟨g, cap, cur, e, _, _, hc, _⟩
          · injection e with _ _ e3
            omega
          · injection e with _ _ e3
            omega
        have hpll' := hpll
        replace hp4 := Lib.hid hp4
        replace ha4 := Lib.hid ha4
        replace hpl := Lib.hid hpl
        replace hpll := Lib.hid hpll
        replace hb4 := Lib.hid hb4
        replace hb24 := Lib.hid hb24
        clear hpll' hgv
        go_wp2_with fail
        · obtain ⟨tl, htl⟩ : ∃ tl, al.drop (al.length - pl.length) = tl := ⟨_, rfl⟩
          have htll : tl.length = pl.length := by rw [← htl, List.length_drop]; omega
          have htm : tl.map (·.b) = pl.map (·.b) := by
            rw [hpl.out, rdrop.out, ← hal.out, ← htl, ← List.map_drop]
            congr 2
            rw [List.length_map, ← hpll.out]
          have hcut := (Reads.of_own ha4.out.row).cut (k := al.length - pl.length) (cap := ac) (by omega) hac
          rw [if_pos h, mbV_drop, htl, show al.length - (al.length - pl.length) = tl.length by omega] at hcut
          rw [show al.length - (al.length - pl.length) = pl.length by omega]
          have hgiv := given_any (c := 0) hcut (Nat.le_refl _) (fun z hz => by
            obtain ⟨A, c, e⟩ := (ha4.out.ops z (by rw [← htl] at hz; exact List.mem_of_mem_drop hz)).form
            exact ⟨A, c, e⟩) (by omega)
          rw [htll] at hgiv
          replace hgiv := Lib.hid hgiv
          replace htl := Lib.hid htl
          replace htm := Lib.hid htm
          replace htll := Lib.hid htll
          clear hcut
          refine hgiv.out.mono ?_
          rintro e w5 ⟨A3, c3, rfl, hrow5, hb5⟩
          have hz5 := hb5.size
          have hp5 := hp4.out.below hb5
          have ha5 := ha4.out.below hb5
          have hb25 : Below wr.heap.size wr w5 := hb24.out.trans (hb5.mono (by omega))
          have hb2w := Lib.hid (hb3.out.trans ((hb4.out.trans (hb5.mono hz4)).mono hz3))
          have hsame := Lib.hid (BSame_any (ca := pc) (cb := c3) (n := pl.length) (Reads.of_own hp5.row) (Reads.of_own hrow5) (Nat.le_refl _) rfl htll.out (by omega) (fun z hz => .of_own (hp5.ops z hz)) (fun z hz => .of_own (ha5.ops z (by have := htl.out; rw [← this] at hz; exact List.mem_of_mem_drop hz))) htm.out.symm (fun z hz => hchk2.out _ (by rw [← hpl.out]; exact List.mem_map_of_mem hz)))
          replace hb25 := Lib.hid hb25
          replace hp5 := Lib.hid hp5
          clear hrow5 hb5 ha5 hgiv hb24 hp4 ha4
          go_wp2_with fail
          refine hsame.out.mono ?_
          rintro e w6 ⟨rfl, hb6⟩
          have hz6 := hb6.size
          have hp6 := hp5.out.below hb6
          have hb26 : Below wr.heap.size wr w6 := hb25.out.trans (hb6.mono (by omega))
          have hD6 : Dx (fun k => k < w.heap.size ∨ (wr.heap.size ≤ k ∧ k < w6.heap.size)) w6 d s := hI.out.dx.grow hb26 (fun k q => q.imp id (fun q => q.1))
          have hT6 : TwinAt w6 wr.heap.size w2.heap.size t s := hT2.out.keeps (Keeps.of_below (X := fun k => k < w2.heap.size) (hb2w.out.trans (hb6.mono (by omega))) (fun k q => q)) (fun k _ q => q)
          have hsd := Lib.hid (Same_dx hD6 hT6 hI.out.good (by omega))
          replace hb26 := Lib.hid hb26
          replace hp6 := Lib.hid hp6
          clear hsame hb25 hp5 hD6 hT6 hb6
          go_wp2_with fail
          refine hsd.out.mono ?_
          rintro e w7 ⟨rfl, hb7⟩
          have hz7 := hb7.size
          have hp7 := hp6.out.below hb7
          have hb27 : Below wr.heap.size wr w7 := hb26.out.trans (hb7.mono (by omega))
          have hD7 : Dx (fun k => k < w.heap.size ∨ (wr.heap.size ≤ k ∧ k < w7.heap.size)) w7 d s := hI.out.dx.grow hb27 (fun k q => q.imp id (fun q => q.1))
          have hX7 : ∀ k, (k < w.heap.size ∨ (wr.heap.size ≤ k ∧ k < w7.heap.size)) → k < w7.heap.size := fun k q => by omega
          have hret := Retire_any hD7 hX7 (fun k q => by omega) (hGr.out.below hb27 hGr.out.size) hI.out.good (by omega) hne.out hraw.out kk
          rw [ret0.out] at hret
          replace hret := Lib.hid hret
          replace hb27 := Lib.hid hb27
          replace hp7 := Lib.hid hp7
          replace hX7 := Lib.hid hX7
          clear hsd hb26 hp6 hD7 hb7
          go_wp2_with fail
          refine hret.out.mono ?_
          rintro e w8 ⟨rfl, hD8, hk8⟩
          have hz8 := hk8.size
          have hb8 : Below w.heap.size w w8 := hbr.out.trans ((hb27.out.mono hwz).trans (hk8.below (fun k q => .inl q)))
          have hp8 : OwnM w8 w3.heap.size (.slice pA pl.length pc) pl := ⟨hk8.own hp7.out.row (fun k q => by have := own_lt hp7.out.row k q; omega), fun z hz => hk8.own (hp7.out.ops z hz) (fun k q => by have := own_lt (hp7.out.ops z hz) k q; omega)⟩
          have hrep := Replay_any hD8 (hG.out.below hb8 h7) gk.out (by omega) (by omega) hne'.out hraw'.out hoff'.out 0
          rw [rrep.out] at hrep
          replace hrep := Lib.hid hrep
          replace hb8 := Lib.hid hb8
          replace hp8 := Lib.hid hp8
          clear hret hb27 hp7 hk8
          go_wp2_with fail
          refine hrep.out.mono ?_
          rintro e w9 ⟨rv, rl, rfl, hr9, hrl, hb9⟩
          have hz9 := hb9.size
          obtain ⟨rA, rc, rfl⟩ := hr9.form
          try simp only at hrl
          have hrll : rl.length = pl.length := by
            have h1 := congrArg List.length hrl
            have h2 := congrArg List.length hpl.out
            rw [List.length_map] at h1 h2
            omega
          rw [hrll]
          have hp9 := hp8.out.below hb9
          have hb9' : Below w.heap.size w w9 := hb8.out.trans (hb9.mono (by omega))
          have hD9 := hD8.grow hb9 (fun k => .inl)
          have hlg := Logs_any hD9 (hG.out.below hb9' h7) gk.out (by omega) hraw'.out
          rw [rlogs.out] at hlg
          obtain ⟨ns, hns⟩ : ∃ ns, (l0.filter fun q => decide (kk ≤ q.1)).map (·.1) = ns := ⟨_, rfl⟩
          have hge : ∀ n ∈ ns, kk ≤ n := fun n hn => by
            rw [← hns, List.mem_map] at hn
            obtain ⟨q, hq, rfl⟩ := hn
            have := (List.mem_filter.1 hq).2
            simpa using this
          rw [hns] at hlg
          replace hlg := Lib.hid hlg
          replace hb9' := Lib.hid hb9'
          replace hp9 := Lib.hid hp9
          replace hr9 := Lib.hid hr9
          replace hrl := Lib.hid hrl
          replace hrll := Lib.hid hrll
          replace hge := Lib.hid hge
          replace hns := Lib.hid hns
          clear hrep hb8 hp8 hD8 hD9 hb9
          go_wp2_with fail
          refine hlg.out.mono ?_
          rintro e w10 ⟨nv, rfl, hu10, hb10⟩
          have hz10 := hb10.size
          obtain ⟨nA, nc, rfl⟩ : ∃ A c, nv = .slice A ns.length c := by
            rcases hu10.2 with ⟨rfl, e⟩ | ⟨gg, cap, cur, rfl, _⟩
            · exact ⟨none, 0, by rw [e]⟩
            · exact ⟨_, cap, rfl⟩
          have hp10 := hp9.out.below hb10
          have hr10 := hr9.out.below hb10
          have hb10' : Below w.heap.size w w10 := hb9'.out.trans (hb10.mono (by omega))
          have hgiv := Lib.hid (given_any (c := pc) (Reads.of_own hp10.row) (Nat.le_refl _) (fun z hz => by
            obtain ⟨A, c, e⟩ := (hp10.ops z hz).form
            exact ⟨A, c, e⟩) (by omega))
          replace hb10' := Lib.hid hb10'
          replace hp10 := Lib.hid hp10
          replace hr10 := Lib.hid hr10
          replace hu10 := Lib.hid hu10
          clear hlg hb9' hp9 hr9 hb10
          go_wp2_with fail
          refine hgiv.out.mono ?_
          rintro e w11 ⟨A4, c4, rfl, hrow11, hb11⟩
          have hz11 := hb11.size
          have hp11 := hp10.out.below hb11
          have hr11 := hr10.out.below hb11
          have hu11 : OwnU w11 w9.heap.size (.slice nA ns.length nc) ns := hu10.out.below hb11
          have hb11' : Below w.heap.size w w11 := hb10'.out.trans (hb11.mono (by omega))
          have hsame := Lib.hid (BSame_any (ca := rc) (cb := c4) (n := pl.length) (Reads.of_own (hrll.out ▸ hr11.row)) (Reads.of_own hrow11) (Nat.le_refl _) hrll.out rfl (by omega) (fun z hz => .of_own (hr11.ops z hz)) (fun z hz => .of_own (hp11.ops z hz)) (by rw [hrl.out, hpl.out]) (fun z hz => hchk2.out _ (by rw [← hrl.out]; exact List.mem_map_of_mem hz)))
          replace hb11' := Lib.hid hb11'
          replace hu11 := Lib.hid hu11
          clear hgiv hb10' hp10 hr10 hu10 hrow11 hb11 hp11 hr11
          go_wp2_with fail
          refine hsame.out.mono ?_
          rintro e w12 ⟨rfl, hb12⟩
          have hz12 := hb12.size
          have hu12 : OwnU w12 w9.heap.size (.slice nA ns.length nc) ns := hu11.out.below hb12
          have hb12' : Below w.heap.size w w12 := hb11'.out.trans (hb12.mono (by omega))
          clear hsame hb11' hu11 hb12
          have hnb : ns.length ≤ 100000 := by
            have h1 := congrArg List.length hns.out
            rw [List.length_map] at h1
            have h2 := List.length_filter_le (fun q : LogE => decide (kk ≤ q.1)) l0
            have h3 := hl0.out
            omega
          obtain ⟨L, hL⟩ : ∃ L, ns.length = L := ⟨_, rfl⟩
          rw [hL]
          rcases Nat.eq_zero_or_pos ns.length with hn0 | hn0
          · obtain rfl : L = 0 := by omega
            replace hb12' := Lib.hid hb12'
            replace hu12 := Lib.hid hu12
            have haw := Lib.hid (wawake_any (hG.out.below hb12'.out hG.out.size))
            have hbA := Lib.hid hb12'.out
            go_wp2_with fail
            refine haw.out.mono ?_
            rintro e wA ⟨rfl, hbW⟩
            have hfin : Below w.heap.size w wA := hbA.out.trans (hbW.mono hbA.out.size)
            replace hfin := Lib.hid hfin
            clear hbW
            go_wp2_with fail
            go_ret
            exact ⟨rfl, hfin.out⟩
          · obtain ⟨gg, cc, eform, hggl, hnat⟩ : ∃ gg cc, Value.slice nA ns.length nc = .slice (some ⟨gg, 0, none⟩) ns.length cc ∧ gg < w12.heap.size ∧ NumsAt w12 gg ns := by
              rcases hu12.form with ⟨e, _⟩ | ⟨gg, cc, e1, e2, e3⟩
              · rw [e] at hn0; simp at hn0
              · exact ⟨gg, cc, e1, e2, e3⟩
            injection eform with eA _ eC
            subst eA eC
            have hq := List.getElem?_eq_getElem hn0
            have q0 := hnat 0 _ hq
            have hkn := hge.out _ (List.getElem_mem hn0)
            generalize ns[0] = n0 at *
            have hkn' : (kk : Int) ≤ (n0 : Nat) := by omega
            have hn0' : ¬ (L : Int) = 0 := by omega
            have hn0'' : (0 : Int) < L := by omega
            have hn0n : ¬ L = 0 := by omega
            replace hL := Lib.hid hL
            replace hb12' := Lib.hid hb12'
            replace hu12 := Lib.hid hu12
            replace hnat := Lib.hid hnat
            replace hq := Lib.hid hq
            have haw := Lib.hid (wawake_any (hG.out.below hb12'.out hG.out.size))
            have hbA := Lib.hid hb12'.out
            go_wp2_with fail
            refine haw.out.mono ?_
            rintro e wA ⟨rfl, hbW⟩
            have hfin : Below w.heap.size w wA := hbA.out.trans (hbW.mono hbA.out.size)
            replace hfin := Lib.hid hfin
            clear hbW
            go_wp2_with fail
            go_ret
            exact ⟨rfl, hfin.out⟩
        · obtain ⟨tl, htl⟩ : ∃ tl, al.drop (al.length - pl.length) = tl := ⟨_, rfl⟩
          have htll : tl.length = pl.length := by rw [← htl, List.length_drop]; omega
          have htm : tl.map (·.b) = pl.map (·.b) := by
            rw [hpl.out, rdrop.out, ← hal.out, ← htl, ← List.map_drop]
            congr 2
            rw [List.length_map, ← hpll.out]
          have hcut := (Reads.of_own ha4.out.row).cut (k := al.length - pl.length) (cap := ac) (by omega) hac
          rw [if_neg h, mbV_drop, htl, show al.length - (al.length - pl.length) = tl.length by omega] at hcut
          rw [show al.length - (al.length - pl.length) = pl.length by omega]
          have hgiv := given_any (c := ac - (al.length - pl.length)) hcut (Nat.le_refl _) (fun z hz => by
            obtain ⟨A, c, e⟩ := (ha4.out.ops z (by rw [← htl] at hz; exact List.mem_of_mem_drop hz)).form
            exact ⟨A, c, e⟩) (by omega)
          rw [htll] at hgiv
          replace hgiv := Lib.hid hgiv
          replace htl := Lib.hid htl
          replace htm := Lib.hid htm
          replace htll := Lib.hid htll
          clear hcut
          refine hgiv.out.mono ?_
          rintro e w5 ⟨A3, c3, rfl, hrow5, hb5⟩
          have hz5 := hb5.size
          have hp5 := hp4.out.below hb5
          have ha5 := ha4.out.below hb5
          have hb25 : Below wr.heap.size wr w5 := hb24.out.trans (hb5.mono (by omega))
          have hb2w := Lib.hid (hb3.out.trans ((hb4.out.trans (hb5.mono hz4)).mono hz3))
          have hsame := Lib.hid (BSame_any (ca := pc) (cb := c3) (n := pl.length) (Reads.of_own hp5.row) (Reads.of_own hrow5) (Nat.le_refl _) rfl htll.out (by omega) (fun z hz => .of_own (hp5.ops z hz)) (fun z hz => .of_own (ha5.ops z (by have := htl.out; rw [← this] at hz; exact List.mem_of_mem_drop hz))) htm.out.symm (fun z hz => hchk2.out _ (by rw [← hpl.out]; exact List.mem_map_of_mem hz)))
          replace hb25 := Lib.hid hb25
          replace hp5 := Lib.hid hp5
          clear hrow5 hb5 ha5 hgiv hb24 hp4 ha4
          go_wp2_with fail
          refine hsame.out.mono ?_
          rintro e w6 ⟨rfl, hb6⟩
          have hz6 := hb6.size
          have hp6 := hp5.out.below hb6
          have hb26 : Below wr.heap.size wr w6 := hb25.out.trans (hb6.mono (by omega))
          have hD6 : Dx (fun k => k < w.heap.size ∨ (wr.heap.size ≤ k ∧ k < w6.heap.size)) w6 d s := hI.out.dx.grow hb26 (fun k q => q.imp id (fun q => q.1))
          have hT6 : TwinAt w6 wr.heap.size w2.heap.size t s := hT2.out.keeps (Keeps.of_below (X := fun k => k < w2.heap.size) (hb2w.out.trans (hb6.mono (by omega))) (fun k q => q)) (fun k _ q => q)
          have hsd := Lib.hid (Same_dx hD6 hT6 hI.out.good (by omega))
          replace hb26 := Lib.hid hb26
          replace hp6 := Lib.hid hp6
          clear hsame hb25 hp5 hD6 hT6 hb6
          go_wp2_with fail
          refine hsd.out.mono ?_
          rintro e w7 ⟨rfl, hb7⟩
          have hz7 := hb7.size
          have hp7 := hp6.out.below hb7
          have hb27 : Below wr.heap.size wr w7 := hb26.out.trans (hb7.mono (by omega))
          have hD7 : Dx (fun k => k < w.heap.size ∨ (wr.heap.size ≤ k ∧ k < w7.heap.size)) w7 d s := hI.out.dx.grow hb27 (fun k q => q.imp id (fun q => q.1))
          have hX7 : ∀ k, (k < w.heap.size ∨ (wr.heap.size ≤ k ∧ k < w7.heap.size)) → k < w7.heap.size := fun k q => by omega
          have hret := Retire_any hD7 hX7 (fun k q => by omega) (hGr.out.below hb27 hGr.out.size) hI.out.good (by omega) hne.out hraw.out kk
          rw [ret0.out] at hret
          replace hret := Lib.hid hret
          replace hb27 := Lib.hid hb27
          replace hp7 := Lib.hid hp7
          replace hX7 := Lib.hid hX7
          clear hsd hb26 hp6 hD7 hb7
          go_wp2_with fail
          refine hret.out.mono ?_
          rintro e w8 ⟨rfl, hD8, hk8⟩
          have hz8 := hk8.size
          have hb8 : Below w.heap.size w w8 := hbr.out.trans ((hb27.out.mono hwz).trans (hk8.below (fun k q => .inl q)))
          have hp8 : OwnM w8 w3.heap.size (.slice pA pl.length pc) pl := ⟨hk8.own hp7.out.row (fun k q => by have := own_lt hp7.out.row k q; omega), fun z hz => hk8.own (hp7.out.ops z hz) (fun k q => by have := own_lt (hp7.out.ops z hz) k q; omega)⟩
          have hrep := Replay_any hD8 (hG.out.below hb8 h7) gk.out (by omega) (by omega) hne'.out hraw'.out hoff'.out 0
          rw [rrep.out] at hrep
          replace hrep := Lib.hid hrep
          replace hb8 := Lib.hid hb8
          replace hp8 := Lib.hid hp8
          clear hret hb27 hp7 hk8
          go_wp2_with fail
          refine hrep.out.mono ?_
          rintro e w9 ⟨rv, rl, rfl, hr9, hrl, hb9⟩
          have hz9 := hb9.size
          obtain ⟨rA, rc, rfl⟩ := hr9.form
          try simp only at hrl
          have hrll : rl.length = pl.length := by
            have h1 := congrArg List.length hrl
            have h2 := congrArg List.length hpl.out
            rw [List.length_map] at h1 h2
            omega
          rw [hrll]
          have hp9 := hp8.out.below hb9
          have hb9' : Below w.heap.size w w9 := hb8.out.trans (hb9.mono (by omega))
          have hD9 := hD8.grow hb9 (fun k => .inl)
          have hlg := Logs_any hD9 (hG.out.below hb9' h7) gk.out (by omega) hraw'.out
          rw [rlogs.out] at hlg
          obtain ⟨ns, hns⟩ : ∃ ns, (l0.filter fun q => decide (kk ≤ q.1)).map (·.1) = ns := ⟨_, rfl⟩
          have hge : ∀ n ∈ ns, kk ≤ n := fun n hn => by
            rw [← hns, List.mem_map] at hn
            obtain ⟨q, hq, rfl⟩ := hn
            have := (List.mem_filter.1 hq).2
            simpa using this
          rw [hns] at hlg
          replace hlg := Lib.hid hlg
          replace hb9' := Lib.hid hb9'
          replace hp9 := Lib.hid hp9
          replace hr9 := Lib.hid hr9
          replace hrl := Lib.hid hrl
          replace hrll := Lib.hid hrll
          replace hge := Lib.hid hge
          replace hns := Lib.hid hns
          clear hrep hb8 hp8 hD8 hD9 hb9
          go_wp2_with fail
          refine hlg.out.mono ?_
          rintro e w10 ⟨nv, rfl, hu10, hb10⟩
          have hz10 := hb10.size
          obtain ⟨nA, nc, rfl⟩ : ∃ A c, nv = .slice A ns.length c := by
            rcases hu10.2 with ⟨rfl, e⟩ | ⟨gg, cap, cur, rfl, _⟩
            · exact ⟨none, 0, by rw [e]⟩
            · exact ⟨_, cap, rfl⟩
          have hp10 := hp9.out.below hb10
          have hr10 := hr9.out.below hb10
          have hb10' : Below w.heap.size w w10 := hb9'.out.trans (hb10.mono (by omega))
          have hgiv := Lib.hid (given_any (c := pc) (Reads.of_own hp10.row) (Nat.le_refl _) (fun z hz => by
            obtain ⟨A, c, e⟩ := (hp10.ops z hz).form
            exact ⟨A, c, e⟩) (by omega))
          replace hb10' := Lib.hid hb10'
          replace hp10 := Lib.hid hp10
          replace hr10 := Lib.hid hr10
          replace hu10 := Lib.hid hu10
          clear hlg hb9' hp9 hr9 hb10
          go_wp2_with fail
          refine hgiv.out.mono ?_
          rintro e w11 ⟨A4, c4, rfl, hrow11, hb11⟩
          have hz11 := hb11.size
          have hp11 := hp10.out.below hb11
          have hr11 := hr10.out.below hb11
          have hu11 : OwnU w11 w9.heap.size (.slice nA ns.length nc) ns := hu10.out.below hb11
          have hb11' : Below w.heap.size w w11 := hb10'.out.trans (hb11.mono (by omega))
          have hsame := Lib.hid (BSame_any (ca := rc) (cb := c4) (n := pl.length) (Reads.of_own (hrll.out ▸ hr11.row)) (Reads.of_own hrow11) (Nat.le_refl _) hrll.out rfl (by omega) (fun z hz => .of_own (hr11.ops z hz)) (fun z hz => .of_own (hp11.ops z hz)) (by rw [hrl.out, hpl.out]) (fun z hz => hchk2.out _ (by rw [← hrl.out]; exact List.mem_map_of_mem hz)))
          replace hb11' := Lib.hid hb11'
          replace hu11 := Lib.hid hu11
          clear hgiv hb10' hp10 hr10 hu10 hrow11 hb11 hp11 hr11
          go_wp2_with fail
          refine hsame.out.mono ?_
          rintro e w12 ⟨rfl, hb12⟩
          have hz12 := hb12.size
          have hu12 : OwnU w12 w9.heap.size (.slice nA ns.length nc) ns := hu11.out.below hb12
          have hb12' : Below w.heap.size w w12 := hb11'.out.trans (hb12.mono (by omega))
          clear hsame hb11' hu11 hb12
          have hnb : ns.length ≤ 100000 := by
            have h1 := congrArg List.length hns.out
            rw [List.length_map] at h1
            have h2 := List.length_filter_le (fun q : LogE => decide (kk ≤ q.1)) l0
            have h3 := hl0.out
            omega
          obtain ⟨L, hL⟩ : ∃ L, ns.length = L := ⟨_, rfl⟩
          rw [hL]
          rcases Nat.eq_zero_or_pos ns.length with hn0 | hn0
          · obtain rfl : L = 0 := by omega
            replace hb12' := Lib.hid hb12'
            replace hu12 := Lib.hid hu12
            have haw := Lib.hid (wawake_any (hG.out.below hb12'.out hG.out.size))
            have hbA := Lib.hid hb12'.out
            go_wp2_with fail
            refine haw.out.mono ?_
            rintro e wA ⟨rfl, hbW⟩
            have hfin : Below w.heap.size w wA := hbA.out.trans (hbW.mono hbA.out.size)
            replace hfin := Lib.hid hfin
            clear hbW
            go_wp2_with fail
            go_ret
            exact ⟨rfl, hfin.out⟩
          · obtain ⟨gg, cc, eform, hggl, hnat⟩ : ∃ gg cc, Value.slice nA ns.length nc = .slice (some ⟨gg, 0, none⟩) ns.length cc ∧ gg < w12.heap.size ∧ NumsAt w12 gg ns := by
              rcases hu12.form with ⟨e, _⟩ | ⟨gg, cc, e1, e2, e3⟩
              · rw [e] at hn0; simp at hn0
              · exact ⟨gg, cc, e1, e2, e3⟩
            injection eform with eA _ eC
            subst eA eC
            have hq := List.getElem?_eq_getElem hn0
            have q0 := hnat 0 _ hq
            have hkn := hge.out _ (List.getElem_mem hn0)
            generalize ns[0] = n0 at *
            have hkn' : (kk : Int) ≤ (n0 : Nat) := by omega
            have hn0' : ¬ (L : Int) = 0 := by omega
            have hn0'' : (0 : Int) < L := by omega
            have hn0n : ¬ L = 0 := by omega
            replace hL := Lib.hid hL
            replace hb12' := Lib.hid hb12'
            replace hu12 := Lib.hid hu12
            replace hnat := Lib.hid hnat
            replace hq := Lib.hid hq
            have haw := Lib.hid (wawake_any (hG.out.below hb12'.out hG.out.size))
            have hbA := Lib.hid hb12'.out
            go_wp2_with fail
            refine haw.out.mono ?_
            rintro e wA ⟨rfl, hbW⟩
            have hfin : Below w.heap.size w wA := hbA.out.trans (hbW.mono hbA.out.size)
            replace hfin := Lib.hid hfin
            clear hbW
            go_wp2_with fail
            go_ret
            exact ⟨rfl, hfin.out⟩
def WNob (w : World) (v : Value) : Prop := Calls Tryz.prog 38 #[v] w fun e w' => e = .returned (.bool true) ∧ w = w'
set_option maxRecDepth 100000 in
set_option maxHeartbeats 400000 in
theorem wnob_nil (w : World) : WNob w (.pointer none) := by
  unfold WNob
  go_enter Tryz.func38, Tryz.ntmps38
  go_wp2
  go_ret
  exact ⟨rfl, rfl⟩
section
variable {v : Value} (w : World) (hn : WNob w v)
include hn
set_option maxRecDepth 100000 in
set_option maxHeartbeats 1000000 in
theorem Wpower_nob : Calls Tryz.prog 98 #[v] w fun e w' => e = .returned (.int .i64 2) ∧ w = w' := by
  have hd := Lib.hid (hn)
  clear hn
  go_enter Tryz.func98, Tryz.ntmps98
  go_wp2_with fail
  refine hd.out.mono ?_
  rintro e w' ⟨rfl, rfl⟩
  go_wp2_with fail
  go_ret
  exact ⟨rfl, rfl⟩
set_option maxRecDepth 100000 in
set_option maxHeartbeats 1000000 in
theorem Wfile_nob (a : ByteArray) : Calls Tryz.prog 90 #[v, .string a] w fun e w' => e = .returned (.tuple #[.pointer none, .int .i64 2]) ∧ w = w' := by
  have hd := Lib.hid (Wpower_nob w hn)
  clear hn
  go_enter Tryz.func90, Tryz.ntmps90
  go_wp2_with fail
  refine hd.out.mono ?_
  rintro e w' ⟨rfl, rfl⟩
  go_wp2_with fail
  go_ret2
  exact ⟨rfl, rfl⟩
set_option maxRecDepth 100000 in
set_option maxHeartbeats 1000000 in
theorem WCreate_nob (a : ByteArray) : Calls Tryz.prog 50 #[v, .string a] w fun e w' => e = .returned (.int .i64 2) ∧ w = w' := by
  have hd := Lib.hid (Wfile_nob w hn a)
  clear hn
  go_enter Tryz.func50, Tryz.ntmps50
  go_wp2_with fail
  refine hd.out.mono ?_
  rintro e w' ⟨rfl, rfl⟩
  go_wp2_with fail
  go_ret
  exact ⟨rfl, rfl⟩
set_option maxRecDepth 100000 in
set_option maxHeartbeats 1000000 in
theorem WRead_nob (a : ByteArray) : Calls Tryz.prog 46 #[v, .string a] w fun e w' => e = .returned (.tuple #[.string ⟨#[]⟩, .int .i64 2]) ∧ w = w' := by
  have hd := Lib.hid (Wfile_nob w hn a)
  clear hn
  go_enter Tryz.func46, Tryz.ntmps46
  go_wp2_with fail
  refine hd.out.mono ?_
  rintro e w' ⟨rfl, rfl⟩
  go_wp2_with fail
  go_ret2
  exact ⟨rfl, rfl⟩
set_option maxRecDepth 100000 in
set_option maxHeartbeats 1000000 in
theorem WList_nob : Calls Tryz.prog 41 #[v] w fun e w' => e = .returned (.slice none 0 0) ∧ w = w' := by
  have hd := Lib.hid (hn)
  clear hn
  go_enter Tryz.func41, Tryz.ntmps41
  go_wp2_with fail
  refine hd.out.mono ?_
  rintro e w' ⟨rfl, rfl⟩
  go_wp2_with fail
  go_ret
  exact ⟨rfl, rfl⟩
end
set_option maxRecDepth 100000 in
set_option maxHeartbeats 1000000 in
theorem Begin_nob (w : World) (hG : Glo w) (n : Nat) (hn : n < 18446744073709551616) : Calls Tryz.prog 18 #[.pointer none, .int .u64 (n : Nat)] w fun e w' => e = .returned (.tuple #[.pointer none, .int .i64 2]) ∧ Below w.heap.size w w' := by
  have hname := Lib.hid (log_name n hn w hG)
  have hcr := Lib.hid (fun w => WCreate_nob w (wnob_nil w) (bs (nameW n)))
  clear hn
  go_enter Tryz.func18, Tryz.ntmps18
  go_wp2_with fail
  refine hname.out.mono ?_
  rintro e w1 ⟨rfl, hb1⟩
  have hc1 := Lib.hid (hcr.out w1)
  go_wp2_with fail
  refine hc1.out.mono ?_
  rintro e w2 ⟨rfl, rfl⟩
  go_wp2_with fail
  go_ret2
  exact ⟨rfl, hb1⟩
set_option maxRecDepth 100000 in
set_option maxHeartbeats 1000000 in
theorem each_nob (w : World) (a b : Value) : Calls Tryz.prog 43 #[.pointer none, a, b] w fun e w' => e = .returned (.int .i64 2) ∧ w = w' := by
  have hrd := Lib.hid (WRead_nob w (wnob_nil w) ⟨#[]⟩)
  go_enter Tryz.func43, Tryz.ntmps43
  go_wp2_with fail
  refine hrd.out.mono ?_
  rintro e w1 ⟨rfl, rfl⟩
  go_wp2_with fail
  go_ret
  exact ⟨rfl, rfl⟩
set_option maxRecDepth 100000 in
set_option maxHeartbeats 1000000 in
theorem Replay_nob (w : World) (f : Nat) : Calls Tryz.prog 15 #[.pointer none, .int .u64 (f : Nat)] w fun e w' => e = .returned (.tuple #[.slice none 0 0, .int .i64 2]) ∧ Below w.heap.size w w' := by
  have hb0 : Below w.heap.size w (((w.alloc (.cells #[.pointer none] 25)).alloc (.cells #[.int .u64 (f : Nat)] 42)).alloc (.cells #[.slice none 0 0] 27)) := (((Below.refl _ _).alloc (Nat.le_refl _) _).alloc (by simp) _).alloc (by simp; omega) _
  have hob : Blk (((w.alloc (.cells #[.pointer none] 25)).alloc (.cells #[.int .u64 (f : Nat)] 42)).alloc (.cells #[.slice none 0 0] 27)) (w.heap.size + 1 + 1) 27 #[.slice none 0 0] := by
    have := Blk.new ((w.alloc (.cells #[.pointer none] 25)).alloc (.cells #[.int .u64 (f : Nat)] 42)) 27 #[.slice none 0 0]
    simpa using this
  have heach := Lib.hid (fun a b => each_nob (((w.alloc (.cells #[.pointer none] 25)).alloc (.cells #[.int .u64 (f : Nat)] 42)).alloc (.cells #[.slice none 0 0] 27)) a b)
  have c0 := hob.cell 0
  have cl := hob.lt
  replace hb0 := Lib.hid hb0
  clear hob
  go_enter Tryz.func15, Tryz.ntmps15
  go_wp2_with fail
  refine (heach.out _ _).mono ?_
  rintro e w1 ⟨rfl, rfl⟩
  go_wp2_with fail
  go_ret2
  exact ⟨rfl, hb0.out⟩
set_option maxRecDepth 100000 in
set_option maxHeartbeats 1000000 in
theorem Retire_nob (w : World) (f : Nat) : Calls Tryz.prog 23 #[.pointer none, .int .u64 (f : Nat)] w fun e w' => e = .returned (.int .i64 2) ∧ Below w.heap.size w w' := by
  have hb0 : Below w.heap.size w (w.alloc (.cells #[.int .u64 (f : Nat)] 42)) := (Below.refl _ _).alloc (Nat.le_refl _) _
  have heach := Lib.hid (fun a b => each_nob (w.alloc (.cells #[.int .u64 (f : Nat)] 42)) a b)
  replace hb0 := Lib.hid hb0
  go_enter Tryz.func23, Tryz.ntmps23
  go_wp2_with fail
  refine (heach.out _ _).mono ?_
  rintro e w1 ⟨rfl, rfl⟩
  go_wp2_with fail
  go_ret
  exact ⟨rfl, hb0.out⟩
set_option maxRecDepth 100000 in
set_option maxHeartbeats 1000000 in
theorem Logs_nob (w : World) : Calls Tryz.prog 21 #[.pointer none] w fun e w' => e = .returned (.slice none 0 0) ∧ w = w' := by
  have hl := Lib.hid (WList_nob w (wnob_nil w))
  have hs := Lib.hid (Sort_nil w)
  go_enter Tryz.func21, Tryz.ntmps21
  go_wp2_with fail
  refine hl.out.mono ?_
  rintro e w1 ⟨rfl, rfl⟩
  go_wp2_with fail
  go_loopw [3, 11] (fun ov iv wr => ov = .slice none 0 0 ∧ iv = .int .i64 0 ∧ w = wr) (fun _ _ _ => 0)
  case atStart => exact ⟨rfl, rfl, rfl⟩
  case round =>
    obtain ⟨rfl, rfl, rfl⟩ := hrel
    go_wp2_with fail
    refine hs.out.mono ?_
    rintro e w1 ⟨rfl, rfl⟩
    go_wp2_with fail
    go_ret
    exact ⟨rfl, rfl⟩
set_option maxRecDepth 100000 in
set_option maxHeartbeats 1000000 in
theorem lnone_nob (w : World) : Calls Tryz.prog 55 #[.pointer none] w fun e w' => e = .returned (.bool true) ∧ w = w' := by
  go_enter Tryz.func55, Tryz.ntmps55
  go_wp2
  go_ret
  exact ⟨rfl, rfl⟩
set_option maxRecDepth 100000 in
set_option maxHeartbeats 1000000 in
theorem LN_nob (w : World) : Calls Tryz.prog 22 #[.pointer none] w fun e w' => e = .returned (.int .u64 0) ∧ w = w' := by
  have hn := Lib.hid (lnone_nob w)
  go_enter Tryz.func22, Tryz.ntmps22
  go_wp2_with fail
  refine hn.out.mono ?_
  rintro e w1 ⟨rfl, rfl⟩
  go_wp2_with fail
  go_ret
  exact ⟨rfl, rfl⟩
set_option maxRecDepth 100000 in
set_option maxHeartbeats 1000000 in
theorem Add_nob (w : World) (a b : Value) : Calls Tryz.prog 19 #[.pointer none, .agg #[a, b]] w fun e w' => e = .returned (.int .i64 2) ∧ Below w.heap.size w w' := by
  have hb0 : Below w.heap.size w (w.alloc (.cells #[a, b] 53)) := (Below.refl _ _).alloc (Nat.le_refl _) _
  have hn := Lib.hid (lnone_nob (w.alloc (.cells #[a, b] 53)))
  replace hb0 := Lib.hid hb0
  go_enter Tryz.func19, Tryz.ntmps19
  go_wp2_with fail
  refine hn.out.mono ?_
  rintro e w1 ⟨rfl, rfl⟩
  go_wp2_with fail
  go_ret
  exact ⟨rfl, hb0.out⟩
end Go.Proofs.YtdbpfemkjfogoaaGreatDoor
namespace Go.Proofs.YtdbpfemkjfogoaaGreatDoor
set_option linter.unusedVariables false
def Dsk.replayR (s : Dsk) (k : Nat) : List BatE := (s.rawW.filter fun n => decide (k ≤ n)).flatMap fun n => batL (s.read (nameW n)).1
def Dsk.retireR (s : Dsk) (k : Nat) : Dsk × Nat := goneW (s.rawW.filter fun n => decide (n < k)) s
theorem replay_raw {s : Dsk} (h : s.rawW.Pairwise (· ≤ ·)) (hoff : s.off = false) (k : Nat) : (s.replayW k).1 = s.replayR k := by
  unfold Dsk.replayW Dsk.replayR
  rw [if_neg (by rw [hoff]; decide), rawW_sorted h]
theorem retire_raw {s : Dsk} (h : s.rawW.Pairwise (· ≤ ·)) (hoff : s.off = false) (k : Nat) : s.retireW k = s.retireR k := by
  unfold Dsk.retireW Dsk.retireR
  rw [if_neg (by rw [hoff]; decide), rawW_sorted h]
def kB3 : Dsk := (wB2.beginW 3).1
def kB4 : Dsk := (kB3.beginW 5).1
def kB5 : Dsk := (kB4.addW 3 ⟨2, []⟩).1
def kB6 : Dsk := (kB5.retireR 5).1
def sB0 : Dsk := Dsk.new 31
def sB1 : Dsk := (sB0.beginW 1099511627776).1
def sB2 : Dsk := (sB1.addW 1099511627776 ⟨1, [⟨[97], [], false⟩]⟩).1
theorem wk3 : (wB2.beginW 3).2 = 5 := by decide +kernel
theorem wk4 : (kB3.beginW 5).2 = 0 := by decide +kernel
theorem wk5 : (kB4.addW 3 ⟨2, []⟩).2 = 1 := by decide +kernel
theorem wk4o : kB4.off = false := by decide +kernel
theorem wk5o : kB5.off = false := by decide +kernel
theorem wk4n : kB4.names.map (·.1) = [nameW 3, nameW 5] := by decide +kernel
theorem wk4r : kB4.rawW = [3, 5] := by decide +kernel
theorem wk4s : kB4.rawW.Pairwise (· ≤ ·) := by rw [wk4r]; decide
theorem wk4l : kB4.logsW = [3, 5] := by rw [rawW_sorted wk4s, wk4r]
theorem wk4p' : kB4.replayR 0 = [⟨1, [wOp]⟩] := by kernel_rfl
theorem wk4q' : kB4.replayR 4 = [] := by kernel_rfl
theorem wk4p : (kB4.replayW 0).1 = [⟨1, [wOp]⟩] := by rw [replay_raw wk4s wk4o, wk4p']
theorem wk4q : (kB4.replayW 4).1 = [] := by rw [replay_raw wk4s wk4o, wk4q']
theorem wk5n : kB5.names.map (·.1) = [nameW 3, nameW 5] := by decide +kernel
theorem wk5r : kB5.rawW = [3, 5] := by decide +kernel
theorem wk5s : kB5.rawW.Pairwise (· ≤ ·) := by rw [wk5r]; decide
theorem wk6' : (kB5.retireR 5).2 = 0 := by decide +kernel
theorem wk6 : (kB5.retireW 5).2 = 0 := by rw [retire_raw wk5s wk5o, wk6']
theorem wk6e : (kB5.retireW 5).1 = kB6 := by rw [retire_raw wk5s wk5o]; rfl
theorem wk6r : kB6.rawW = [5] := by decide +kernel
theorem wk6s : kB6.rawW.Pairwise (· ≤ ·) := by rw [wk6r]; decide
theorem wk6l : kB6.logsW = [5] := by rw [rawW_sorted wk6s, wk6r]
theorem ws1 : (sB0.beginW 1099511627776).2 = 0 := by decide +kernel
theorem ws2 : (sB1.addW 1099511627776 ⟨1, [⟨[97], [], false⟩]⟩).2 = 6 := by decide +kernel
theorem ws3 : sB2.used = 0 := by decide +kernel
theorem wkn : (nameW 5 == []) = false := by decide +kernel
end Go.Proofs.YtdbpfemkjfogoaaGreatDoor
namespace Go.Proofs.YtdbpfemkjfogoaaGreatDoor
open Go.RowKit
set_option linter.unusedVariables false
set_option linter.unusedSimpArgs false
theorem Used_dx {X : Nat → Prop} {w : World} {d : Nat} {s : Dsk} {m : Nat} (h : Dx X w d s) (g : s.Good m) (hm : m < 1073741824) : Calls Tryz.prog 24 #[.pointer (some ⟨d, 0, none⟩)] w fun e w' => e = .returned (.int .i64 (s.used : Nat)) ∧ Below w.heap.size w w' := by
  obtain ⟨F, L, hL, hF⟩ := h
  exact Used_any hL g.ok (by have := g.names; omega)
theorem OwnU.two {w : World} {B : Nat} {v : Value} {a b : Nat} (h : OwnU w B v [a, b]) : ∃ g cap, v = .slice (some ⟨g, 0, none⟩) 2 cap ∧ g < w.heap.size ∧ w.cell? ⟨g, 0, none⟩ = some (.int .u64 (a : Nat)) ∧ w.cell? ⟨g, 1, none⟩ = some (.int .u64 (b : Nat)) := by
  rcases h.form with ⟨e, _⟩ | ⟨g, cap, e, hg, hn⟩
  · cases e
  · exact ⟨g, cap, e, hg, hn 0 a rfl, hn 1 b rfl⟩
theorem OwnU.one {w : World} {B : Nat} {v : Value} {a : Nat} (h : OwnU w B v [a]) : ∃ g cap, v = .slice (some ⟨g, 0, none⟩) 1 cap ∧ g < w.heap.size ∧ w.cell? ⟨g, 0, none⟩ = some (.int .u64 (a : Nat)) := by
  rcases h.form with ⟨e, _⟩ | ⟨g, cap, e, hg, hn⟩
  · cases e
  · exact ⟨g, cap, e, hg, hn 0 a rfl⟩
theorem names_ok {s : Dsk} {l : List Nat} (h : s.names.map (·.1) = l.map nameW) (hl : l.length ≤ 20000) (h0 : ∀ n ∈ l, (nameW n == []) = false) : s.names.length ≤ 20000 ∧ ∀ p ∈ s.names, p.1 ≠ [] := by
  refine ⟨?_, fun p hp e => ?_⟩
  · have := congrArg List.length h
    rw [List.length_map, List.length_map] at this
    omega
  · have : p.1 ∈ s.names.map (·.1) := List.mem_map_of_mem hp
    rw [h] at this
    obtain ⟨n, hn, e2⟩ := List.mem_map.1 this
    have := h0 n hn
    rw [e2, e] at this
    cases this
def sOp : OpE := ⟨[97], [], false⟩
theorem sOp_at (w : World) : OpsR (w.alloc (.cells #[.string ⟨#[97]⟩, .string ⟨#[]⟩, .bool false] 60)) (w.heap.size + 1) (some ⟨w.heap.size, 0, none⟩) [sOp] :=
  ⟨rfl, fun _ => ⟨_, rfl, by simp, fun j u hu => by
    rcases j with _ | _ | _ | j
    · simp [opsV, opL, sOp] at hu; subst hu; simp [go_sem, Addr.add]; rfl
    · simp [opsV, opL, sOp] at hu; subst hu; simp [go_sem, Addr.add]; rfl
    · simp [opsV, opL, sOp] at hu; subst hu; simp [go_sem, Addr.add]
    · simp [opsV, opL, sOp] at hu⟩⟩
set_option maxRecDepth 100000 in
set_option maxHeartbeats 8000000 in
theorem wknown_any {w : World} (hG : Glo w) :
    Calls Tryz.prog 4 #[] w fun e w' => e = .returned (.bool true) ∧ Below w.heap.size w w' := by
  have hw7 := hG.size
  go_enter Tryz.func4, Tryz.ntmps4
  go_wp2_with fail
  refine (New_dx (X := fun k => k < w.heap.size) 1048576 w (fun k q => q)).mono ?_
  rintro e w1 ⟨d, rfl, h1, b1, hd1⟩
  have z1 := b1.size
  have G1 := hG.below b1 hw7
  have g0 : (Dsk.new 1048576).Good 0 := .new _
  have c2 := Begin_any h1 (fun k q => by omega) (fun k q => by omega) G1 g0 (by omega) 3 (by omega)
  replace c2 := Lib.hid c2
  go_wp2_with fail
  refine c2.out.mono ?_
  rintro e w2 ⟨hB, k2⟩
  have z2 := k2.size
  rcases hB with ⟨_, lg, rfl, hl2, hlg, h2⟩ | ⟨q, _, _⟩
  rotate_left
  · exact absurd wa1 q
  have G2 := G1.keeps k2 (fun k q => by omega)
  have b2 : Below w.heap.size w w2 := b1.trans (k2.below (fun k q => q))
  have g1 : wB1.Good 2 := g0.beginW 3
  have hlt2 := Blk.lt hl2
  change Dx _ w2 d wB1 at h2
  have cs := Lib.hid (small_any 1 w2)
  replace hl2 := Lib.hid hl2
  clear c2 h1 G1 k2 b1
  go_wp2_with fail
  refine cs.out.mono ?_
  rintro e w3 ⟨A1, rfl, ho3, b3⟩
  have z3 := b3.size
  have h3 := h2.grow b3 (fun k => .inl)
  have k3 : Keeps (fun k => k < w.heap.size ∨ k = lg) w2 w3 := Keeps.of_below b3 (fun k q => by omega)
  have G3 := G2.keeps k3 (fun k q => by omega)
  have l3 := k3.blk hl2.out (.inr rfl)
  have c4 := Add_any h3 (fun k q => by omega) (fun k q => by omega) G3 g1 (by omega) (by omega) l3 (.inr rfl) 1 A1 1 w3.heap.size [wOp] (by omega) ho3 (Nat.le_refl _) (by decide)
  rw [wa2] at c4
  have b3' : Below w.heap.size w w3 := b2.trans (k3.below (fun k q => .inl q))
  replace c4 := Lib.hid c4
  replace l3 := Lib.hid l3
  clear hl2 b2 b3 h2 cs G2 k3 ho3 h3
  go_wp2_with fail
  refine c4.out.mono ?_
  rintro e w4 ⟨rfl, h4, k4⟩
  have z4 := k4.size
  change Dx _ w4 d wB2 at h4
  have G4 := G3.keeps k4 (fun k q => by omega)
  have l4 := k4.blk l3.out (.inr rfl)
  have b4 : Below w.heap.size w w4 := b3'.trans (k4.below (fun k q => .inl q))
  have g2 : wB2.Good _ := g1.addW 3 ⟨1, [wOp]⟩
  have c5 := Lib.hid (Begin_any h4 (fun k q => by omega) (fun k q => by omega) G4 g2 (by omega) 3 (by omega))
  replace l4 := Lib.hid l4
  clear l3 c4 G3 k4 h4 b3'
  go_wp2_with fail
  refine c5.out.mono ?_
  rintro e w5 ⟨hB, k5⟩
  have z5 := k5.size
  rcases hB with ⟨q, _⟩ | ⟨_, rfl, h5⟩
  · rw [wk3] at q; cases q
  rw [wk3]
  change Dx _ w5 d kB3 at h5
  have G5 := G4.keeps k5 (fun k q => by omega)
  have l5 := k5.blk l4.out (.inr rfl)
  have b5 : Below w.heap.size w w5 := b4.trans (k5.below (fun k q => .inl q))
  have g3 : kB3.Good _ := g2.beginW 3
  have c6 := Lib.hid (Begin_any h5 (fun k q => by omega) (fun k q => by omega) G5 g3 (by omega) 5 (by omega))
  replace l5 := Lib.hid l5
  clear l4 c5 G4 k5 h5 b4
  go_wp2_with fail
  refine c6.out.mono ?_
  rintro e w6 ⟨hB, k6⟩
  have z6 := k6.size
  rcases hB with ⟨_, lg2, rfl, hl6, hlg2, h6⟩ | ⟨q, _, _⟩
  rotate_left
  · exact absurd wk4 q
  change Dx _ w6 d kB4 at h6
  have G6 := G5.keeps k6 (fun k q => by omega)
  have l6 := k6.blk l5.out (.inr rfl)
  have b6 : Below w.heap.size w w6 := b5.trans (k6.below (fun k q => .inl q))
  have g4 : kB4.Good _ := g3.beginW 5
  have hlt6 := Blk.lt hl6
  have hraw4 := wk4s
  obtain ⟨hn4, hne4⟩ := names_ok (l := [3, 5]) wk4n (by decide) (by decide +kernel)
  have c7 := Logs_any h6 G6 g4 (by omega) hraw4
  rw [wk4l] at c7
  replace c7 := Lib.hid c7
  replace l6 := Lib.hid l6
  clear l5 c6 G5 k6 b5 hl6
  go_wp2_with fail
  refine c7.out.mono ?_
  rintro e w7 ⟨v7, rfl, hu7, b7⟩
  have z7 := b7.size
  obtain ⟨g7, cp7, rfl, hg7, e70, e71⟩ := hu7.two
  have h7 : Dx (fun k => ((k < w.heap.size ∨ k = lg) ∨ k = lg2) ∨ (w6.heap.size ≤ k ∧ k < w7.heap.size)) w7 d kB4 := h6.grow b7 (fun k q => q.imp id (fun q => q.1))
  have G7 := G6.below b7 (by omega)
  have l7 := (Keeps.of_below (X := fun k => k < w6.heap.size) b7 (fun k q => q)).blk l6.out (by show lg < w6.heap.size; omega)
  have b7' : Below w.heap.size w w7 := b6.trans (b7.mono (by omega))
  have hg7' := hu7.lt g7 rfl
  have c8 := Replay_any h7 G7 g4 (by omega) hn4 hne4 hraw4 wk4o 0
  rw [wk4p] at c8
  replace c8 := Lib.hid c8
  replace l7 := Lib.hid l7
  replace b7' := Lib.hid b7'
  clear l6 c7 G6 b6 h6 hu7 b7 e70
  go_wp2_with fail
  refine c8.out.mono ?_
  rintro e w8 ⟨v8, m8, rfl, hm8, hl8, b8⟩
  have z8 := b8.size
  have hm8l : m8.length = 1 := by have := congrArg List.length hl8; rw [List.length_map] at this; exact this
  obtain ⟨A8, c8', rfl⟩ := hm8.form
  rw [hm8l]
  have h8 : Dx (fun k => ((k < w.heap.size ∨ k = lg) ∨ k = lg2) ∨ (w6.heap.size ≤ k ∧ k < w8.heap.size)) w8 d kB4 := h7.grow b8 (fun k q => by omega)
  have G8 := G7.below b8 (by omega)
  have k8 := Keeps.of_below (X := fun k => k < w7.heap.size) b8 (fun k q => q)
  have l8 := k8.blk l7.out (by show lg < w7.heap.size; omega)
  have f81 := (b8.cell (p := ⟨g7, 1, none⟩) hg7).trans e71
  have b8' := b7'.out.trans (b8.mono (by omega))
  have c9 := Replay_any h8 G8 g4 (by omega) hn4 hne4 hraw4 wk4o 4
  rw [wk4q] at c9
  replace c9 := Lib.hid c9
  replace l8 := Lib.hid l8
  replace b8' := Lib.hid b8'
  clear l7 c8 G7 h7 e71 hm8 hl8 b8 b7' k8
  go_wp2_with fail
  refine c9.out.mono ?_
  rintro e w9 ⟨v9, m9, rfl, hm9, hl9, b9⟩
  have z9 := b9.size
  have hm9l : m9.length = 0 := by have := congrArg List.length hl9; rw [List.length_map] at this; exact this
  obtain ⟨A9, c9', rfl⟩ := hm9.form
  rw [hm9l]
  have h9 : Dx (fun k => ((k < w.heap.size ∨ k = lg) ∨ k = lg2) ∨ (w6.heap.size ≤ k ∧ k < w9.heap.size)) w9 d kB4 := h8.grow b9 (fun k q => by omega)
  have G9 := G8.below b9 (by omega)
  have k9 := Keeps.of_below (X := fun k => k < w8.heap.size) b9 (fun k q => q)
  have l9 := k9.blk l8.out (by show lg < w8.heap.size; omega)
  have f91 := (b9.cell (p := ⟨g7, 1, none⟩) (by show g7 < w8.heap.size; omega)).trans f81
  have b9' := b8'.out.trans (b9.mono (by omega))
  have c10 := Add_any h9 (fun k q => by omega) (fun k q => by omega) G9 g4 (by omega) (by omega) l9 (.inl (.inl (.inr rfl))) 2 none 0 w9.heap.size [] (by omega) Reads.none_ (Nat.le_refl _) (by decide)
  rw [wk5] at c10
  replace c10 := Lib.hid c10
  replace l9 := Lib.hid l9
  replace b9' := Lib.hid b9'
  clear l8 c9 G8 h8 f81 hm9 hl9 b9 b8' k9
  go_wp2_with fail
  refine c10.out.mono ?_
  rintro e w10 ⟨rfl, h10, k10⟩
  have z10 := k10.size
  change Dx _ w10 d kB5 at h10
  have G10 := G9.keeps k10 (fun k q => by omega)
  have f101 := (k10.cell (b := g7) (o := 1) (by omega)).trans f91
  have b10 : Below w.heap.size w w10 := b9'.out.trans (k10.below (fun k q => by omega))
  have g5 : kB5.Good _ := g4.addW 3 ⟨2, []⟩
  have cs := Lib.hid (small_any 1 w10)
  have hg10 : g7 < w10.heap.size := by omega
  replace b10 := Lib.hid b10
  clear l9 c10 G9 h9 f91 b9' k10
  go_wp2_with fail
  refine cs.out.mono ?_
  rintro e w11 ⟨A11, rfl, ho11, b11⟩
  have z11 := b11.size
  have ca := Lib.hid (Add_nob w11 (.int .u64 1) (.slice A11 1 1))
  replace b11 := Lib.hid b11
  clear cs ho11
  go_wp2_with fail
  refine ca.out.mono ?_
  rintro e w12 ⟨rfl, b12⟩
  have z12 := b12.size
  have cN := Lib.hid (LN_nob w12)
  have b1012 : Below w10.heap.size w10 w12 := b11.out.trans (b12.mono (by omega))
  have h12 := h10.grow b1012 (fun k => .inl)
  have G12 := G10.below b1012 (by omega)
  have b12' := b10.out.trans (b1012.mono (by omega))
  replace b12' := Lib.hid b12'
  clear ca b11 b12 b1012 b10 h10 G10
  go_wp2_with fail
  refine cN.out.mono ?_
  rintro e w12' ⟨rfl, rfl⟩
  have hraw5 := wk5s
  obtain ⟨hn5, hne5⟩ := names_ok (l := [3, 5]) wk5n (by decide) (by decide +kernel)
  have c13 := Retire_any h12 (fun k q => by omega) (fun k q => by omega) G12 g5 (by omega) hne5 hraw5 5
  rw [wk6] at c13
  replace c13 := Lib.hid c13
  clear cN f101
  go_wp2_with fail
  refine c13.out.mono ?_
  rintro e w13 ⟨rfl, h13, k13⟩
  have z13 := k13.size
  rw [wk6e] at h13
  have G13 := G12.keeps k13 (fun k q => by omega)
  have b13 : Below w.heap.size w w13 := b12'.out.trans (k13.below (fun k q => by omega))
  have g6 : kB6.Good _ := wk6e ▸ g5.retireW 5
  have hraw6 := wk6s
  have c14 := Logs_any h13 G13 g6 (by omega) hraw6
  rw [wk6l] at c14
  replace c14 := Lib.hid c14
  replace b13 := Lib.hid b13
  clear c13 h12 G12 k13 b12'
  go_wp2_with fail
  refine c14.out.mono ?_
  rintro e w14 ⟨v14, rfl, hu14, b14⟩
  have z14 := b14.size
  obtain ⟨g14, cp14, rfl, hg14, e140⟩ := hu14.one
  have G14 := G13.below b14 (by omega)
  have b14' := b13.out.trans (b14.mono (by omega))
  have c15 := Lib.hid (Replay_nob w14 0)
  replace b14' := Lib.hid b14'
  clear c14 h13 G13 hu14 b13 b14
  go_wp2_with fail
  refine c15.out.mono ?_
  rintro e w15 ⟨rfl, b15⟩
  have z15 := b15.size
  have G15 := G14.below b15 (by omega)
  have c16 := Lib.hid (Begin_nob w15 G15 1 (by omega))
  replace b15 := Lib.hid b15
  clear c15 G14
  go_wp2_with fail
  refine c16.out.mono ?_
  rintro e w16 ⟨rfl, b16⟩
  have z16 := b16.size
  have G16 := G15.below b16 (by omega)
  have e160 := ((b15.out.trans (b16.mono z15)).cell (p := ⟨g14, 0, none⟩) hg14).trans e140
  have b16' := b14'.out.trans ((b15.out.trans (b16.mono z15)).mono (by omega))
  have c17 := Lib.hid (New_dx (X := fun k => k < w16.heap.size) 31 w16 (fun k q => q))
  replace b16' := Lib.hid b16'
  clear c16 G15 b16 b15 b14' e140
  go_wp2_with fail
  refine c17.out.mono ?_
  rintro e w17 ⟨d2, rfl, h17, b17, hd17⟩
  have z17 := b17.size
  have G17 := G16.below b17 (by omega)
  have g17 : sB0.Good 0 := .new _
  have c18 := Begin_any h17 (fun k q => by omega) (fun k q => by omega) G17 g17 (by omega) 1099511627776 (by omega)
  replace c18 := Lib.hid c18
  replace b17 := Lib.hid b17
  clear c17 G16
  go_wp2_with fail
  refine c18.out.mono ?_
  rintro e w18 ⟨hB, k18⟩
  have z18 := k18.size
  rcases hB with ⟨_, lg3, rfl, hl18, hlg3, h18⟩ | ⟨q, _, _⟩
  rotate_left
  · exact absurd ws1 q
  change Dx _ w18 d2 sB1 at h18
  have G18 := G17.keeps k18 (fun k q => by omega)
  have b1618 := b17.out.trans (k18.below (B := w16.heap.size) (fun k q => q))
  have e180 := (b1618.cell (p := ⟨g14, 0, none⟩) (by show g14 < w16.heap.size; omega)).trans e160
  have b18 := b16'.out.trans (b1618.mono (by omega))
  have hlt18 := Blk.lt hl18
  have g18 : sB1.Good _ := g17.beginW 1099511627776
  have hg18 : g14 < w18.heap.size := by omega
  have c19 := Lib.hid (Retire_nob w18 1)
  replace b18 := Lib.hid b18
  replace hl18 := Lib.hid hl18
  clear c18 G17 h17 k18 b17 b1618 b16' e160
  go_wp2_with fail
  refine c19.out.mono ?_
  rintro e w19 ⟨rfl, b19⟩
  have z19 := b19.size
  have c20 := Lib.hid (Logs_nob w19)
  have h19 := h18.grow b19 (fun k => .inl)
  have G19 := G18.below b19 (by omega)
  have l19 := (Keeps.of_below (X := fun k => k < w18.heap.size) b19 (fun k q => q)).blk hl18.out (by show lg3 < w18.heap.size; omega)
  have b19' := b18.out.trans (b19.mono (by omega))
  replace b19' := Lib.hid b19'
  replace l19 := Lib.hid l19
  clear c19 hl18 h18 G18 b18 b19 e180
  go_wp2_with fail
  refine c20.out.mono ?_
  rintro e w19' ⟨rfl, rfl⟩
  go_wp2_with fail
  have hb20 : Below w19.heap.size w19 (w19.alloc (.cells #[.string ⟨#[97]⟩, .string ⟨#[]⟩, .bool false] 60)) := (Below.refl _ _).alloc (Nat.le_refl _) _
  have h20 := h19.grow hb20 (Y := fun k => k < w16.heap.size ∨ k = lg3) (fun k => .inl)
  have G20 := G19.below hb20 (by omega)
  have l20 := l19.out.below hb20 l19.out.lt
  have ho20 := sOp_at w19
  have z20 : (w19.alloc (.cells #[.string ⟨#[97]⟩, .string ⟨#[]⟩, .bool false] 60)).heap.size = w19.heap.size + 1 := by simp
  have c21 := Add_any h20 (fun k q => by omega) (fun k q => by omega) G20 g18 (by omega) (by omega) l20 (.inr rfl) 1 (some ⟨w19.heap.size, 0, none⟩) 1 (w19.heap.size + 1) [sOp] (by omega) ho20 (by omega) (by decide)
  rw [show (sB1.addW 1099511627776 ⟨1, [sOp]⟩).2 = 6 from ws2] at c21
  have b20 := b19'.out.trans (hb20.mono (by omega))
  generalize w19.alloc (.cells #[.string ⟨#[97]⟩, .string ⟨#[]⟩, .bool false] 60) = w20 at *
  replace c21 := Lib.hid c21
  clear h19 hb20 h20 l20 ho20 c20 l19 G19 b19'
  refine c21.out.mono ?_
  rintro e w21 ⟨rfl, h21, k21⟩
  have z21 := k21.size
  change Dx _ w21 d2 sB2 at h21
  have G21 := G20.keeps k21 (fun k q => by omega)
  have b21 : Below w.heap.size w w21 := b20.trans (k21.below (fun k q => by omega))
  have g21 : sB2.Good _ := g18.addW 1099511627776 ⟨1, [sOp]⟩
  have c22 := Used_dx h21 g21 (by omega)
  rw [ws3] at c22
  replace c22 := Lib.hid c22
  replace b21 := Lib.hid b21
  clear c21 G20 k21 b20 h21
  go_wp2_with fail
  refine c22.out.mono ?_
  rintro e w22 ⟨rfl, b22⟩
  have G22 := G21.below b22 (by omega)
  have b22' := b21.out.trans (b22.mono (by omega))
  have c23 := Lib.hid (wawake_any G22)
  have z22 := b22.size
  replace b22' := Lib.hid b22'
  clear c22 b22 b21
  go_wp2_with fail
  refine c23.out.mono ?_
  rintro e w23 ⟨rfl, b23⟩
  have hfin := Lib.hid (b22'.out.trans (b23.mono (by omega)))
  clear b23 c23
  go_wp2_with fail
  go_ret
  exact ⟨rfl, hfin.out⟩
end Go.Proofs.YtdbpfemkjfogoaaGreatDoor
