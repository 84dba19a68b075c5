/- Contracts of the law: copyholdlaw06.Great, greatRounds. -/
import Derived.Test.YtdbpfemkjfogoaaGreatDoorM18
namespace Go.Proofs.YtdbpfemkjfogoaaGreatDoor
open Go.RowKit
set_option linter.unusedVariables false
set_option linter.unusedSimpArgs false
set_option maxRecDepth 100000 in
set_option maxHeartbeats 2000000 in
theorem BGreat_any {w : World} {N seq cap : Nat} {A : Option Addr} {ops : List OpE} (hA : OpsR w N A ops) (hN : N ≤ w.heap.size) :
    Calls Tryz.prog 31 #[.agg #[.int .u64 (seq : Nat), .slice A ops.length cap]] w (SaysOr w (ops.length ≤ 60)) := by
  have hb0 : Below w.heap.size w (w.alloc (.cells #[.int .u64 (seq : Nat), .slice A ops.length cap] 53)) := (Below.refl _ _).alloc (Nat.le_refl _) _
  have g0 := Blk.new w 53 #[.int .u64 (seq : Nat), .slice A ops.length cap]
  by_cases h1 : 60 < ops.length
  · have h1' : (60 : Int) < ops.length := by omega
    go_enter Tryz.func31, Tryz.ntmps31
    go_wp2_with fail
    go_ret
    exact ⟨true, rfl, (fun h => by cases h), hb0⟩
  · have h1' : ¬ (60 : Int) < ops.length := by omega
    replace g0 := Lib.hid g0
    replace hb0 := Lib.hid hb0
    go_enter Tryz.func31, Tryz.ntmps31
    go_wp2_with fail
    go_loopw [3, 4] (fun nv iv wr => ∃ (i : Nat) (z : Int), i ≤ ops.length ∧ iv = .int .i64 (i : Nat) ∧ nv = .int .i64 z ∧ Below w.heap.size w wr ∧ Blk wr w.heap.size 53 #[.int .u64 (seq : Nat), .slice A ops.length cap]) (fun _ iv _ => ops.length - (intOf iv).toNat)
    case atStart => exact ⟨0, 0, Nat.zero_le _, rfl, rfl, hb0.out, g0.out⟩
    case round =>
      obtain ⟨i, z, hi, rfl, rfl, hbr, k0⟩ := hrel
      have z0 : wr.cell? ⟨w.heap.size, 1, none⟩ = some (.slice A ops.length cap) := k0.cell 1
      have l0 := k0.lt
      replace k0 := Lib.hid k0
      by_cases hlt : i < ops.length
      · have hlt' : (i : Int) < ops.length := by omega
        have hwz := hbr.size
        have hxi := List.getElem?_eq_getElem hlt
        obtain ⟨ba, pa, hae, hba, a0, a1, a2⟩ := OpsR.at_ (hA.below hbr hN) hxi
        rw [hae] at z0
        have hbal : ba < wr.heap.size := by omega
        generalize bs ops[i].key = KK at *
        generalize bs ops[i].value = VV at *
        generalize ops[i].gone = GG at *
        obtain ⟨kz, hkz⟩ : ∃ n, KK.size = n := ⟨_, rfl⟩
        obtain ⟨vz, hvz⟩ : ∃ n, VV.size = n := ⟨_, rfl⟩
        replace hae := Lib.hid hae
        replace hxi := Lib.hid hxi
        replace hbr := Lib.hid hbr
        by_cases q1 : 12000 < kz
        · have q1' : (12000 : Int) < kz := by omega
          go_wp2_with fail
          go_ret
          exact ⟨true, rfl, (fun h => by cases h), hbr.out⟩
        · have q1' : ¬ (12000 : Int) < kz := by omega
          by_cases q2 : 12000 < vz
          · have q2' : (12000 : Int) < vz := by omega
            go_wp2_with fail
            go_ret
            exact ⟨true, rfl, (fun h => by cases h), hbr.out⟩
          · have q2' : ¬ (12000 : Int) < vz := by omega
            go_wp2_with fail
            have hxc := @Ext.cell
            refine wp_region_ext (by kernel_rfl) (by kernel_rfl) ?_
            repeat (go_big_quiet_step ((first | fail)))
            refine wpQuiet_nil ?_
            clear hxc
            intro wx hwx
            obtain ⟨x, hx⟩ := hwx
            have hb := x.below
            rw [← hx] at hb
            clear hx x
            have hbx : Below w.heap.size w wx := hbr.out.trans (hb.mono hwz)
            have kx0 := k0.out.below hb k0.out.lt
            replace hbx := Lib.hid hbx
            replace kx0 := Lib.hid kx0
            clear hb
            go_wp2_with fail
            exact ⟨⟨i + 1, _, by omega, by go_num, rfl, hbx.out, kx0.out⟩, by simp [intOf]; omega⟩
      · have hlt' : ¬ (i : Int) < ops.length := by omega
        replace hbr := Lib.hid hbr
        go_wp2_with fail
        go_ret
        exact ⟨_, rfl, fun _ => by omega, hbr.out⟩
/-- Rounds in memory. -/
def rmsV (l : List RM) : List Value := l.flatMap rmC
structure RmsAt (N : Nat) (w : World) (A : Option Addr) (l : List RM) : Prop where
  rd : Reads w N 6 A l.length (rmsV l)
  ok : ∀ r ∈ l, RmOk N w r
theorem RmsAt.below {N C : Nat} {w w' : World} {A : Option Addr} {l : List RM} (h : RmsAt N w A l) (hb : Below C w w') (hC : N ≤ C) : RmsAt N w' A l := ⟨h.rd.below (hb.mono hC), fun r hr => (h.ok r hr).below hb hC⟩
theorem RmsAt.at_ {N : Nat} {w : World} {A : Option Addr} {l : List RM} (h : RmsAt N w A l) {k : Nat} {r : RM} (hk : l[k]? = some r) :
    ∃ b o, A = some ⟨b, o, none⟩ ∧ b < N ∧ w.cell? ⟨b, o + k * 6, none⟩ = some (.slice r.BA r.bats.length r.bc) ∧ w.cell? ⟨b, o + k * 6 + 1, none⟩ = some (.slice r.NA r.news.length r.nc) ∧ w.cell? ⟨b, o + k * 6 + 2, none⟩ = some (.int .i64 r.fuse) ∧
      w.cell? ⟨b, o + k * 6 + 3, none⟩ = some (.int .i64 r.cr.names) ∧ w.cell? ⟨b, o + k * 6 + 4, none⟩ = some (.slice r.KA r.cr.keep.length r.kc) ∧ w.cell? ⟨b, o + k * 6 + 5, none⟩ = some (.slice r.PA r.cr.spoil.length r.pc) := by
  obtain ⟨b, o, e, hb, hc⟩ := row_at rmC_len (by decide) h.rd hk
  exact ⟨b, o, e, hb, hc 0 _ rfl, hc 1 _ rfl, hc 2 _ rfl, hc 3 _ rfl, hc 4 _ rfl, hc 5 _ rfl⟩
def RSmall (r : RM) : Prop := r.bats.length ≤ 20 ∧ r.news.length ≤ 20 ∧ (r.cr.keep.length ≤ 100 ∧ r.cr.spoil.length ≤ 100) ∧ ∀ x ∈ r.bats, x.b.ops.length ≤ 60
set_option maxRecDepth 100000 in
set_option maxHeartbeats 4000000 in
theorem greatR_any {N : Nat} (w : World) (A : Option Addr) (l : List RM) (cap : Nat) (h : RmsAt N w A l) (hN : N ≤ w.heap.size) :
    Calls Tryz.prog 8 #[.slice A l.length cap] w (SaysOr w (l.length ≤ 8 ∧ ∀ r ∈ l, RSmall r)) := by
  by_cases h0 : 8 < l.length
  · have h0' : (8 : Int) < l.length := by omega
    go_enter Tryz.func8, Tryz.ntmps8
    go_wp2
    go_ret
    exact ⟨true, rfl, (fun h => by cases h), Below.refl _ _⟩
  · have h0' : ¬ (8 : Int) < l.length := by omega
    replace h := Lib.hid h
    go_enter Tryz.func8, Tryz.ntmps8
    go_wp2_with fail
    go_loopw [3, 4, 5, 6] (fun nv iv kv jv wr => ∃ (i : Nat) (z : Int), i ≤ l.length ∧ iv = .int .i64 (i : Nat) ∧ nv = .int .i64 z ∧ (∀ r ∈ l.take i, RSmall r) ∧ Below w.heap.size w wr) (fun _ iv _ _ _ => l.length - (intOf iv).toNat)
    case atStart => exact ⟨0, 0, Nat.zero_le _, rfl, rfl, (fun r hr => by simp at hr), Below.refl _ _⟩
    case round =>
      obtain ⟨i, z, hi, rfl, rfl, hsm, hbr⟩ := hrel
      by_cases hlt : i < l.length
      · have hlt' : (i : Int) < l.length := by omega
        have hxi := List.getElem?_eq_getElem hlt
        have hok := h.out.ok _ (List.getElem_mem hlt)
        obtain ⟨b, o, rfl, hbN, q0, q1, q2, q3, q4, q5⟩ := (h.out.below hbr hN).at_ hxi
        have htk : l.take (i + 1) = l.take i ++ [l[i]] := by simp
        generalize l[i] = r at *
        have hbz := hbr.size
        have hbl : b < wr.heap.size := by omega
        by_cases ha : 20 < r.bats.length
        · have ha' : (20 : Int) < r.bats.length := by omega
          replace hxi := Lib.hid hxi
          replace htk := Lib.hid htk
          replace hsm := Lib.hid hsm
          replace hbr := Lib.hid hbr
          replace hok := Lib.hid hok
          go_wp2_with fail
          go_ret
          exact ⟨true, rfl, (fun h => by cases h), hbr.out⟩
        · have ha' : ¬ (20 : Int) < r.bats.length := by omega
          by_cases hb : 20 < r.news.length
          · have hb' : (20 : Int) < r.news.length := by omega
            replace hxi := Lib.hid hxi
            replace htk := Lib.hid htk
            replace hsm := Lib.hid hsm
            replace hbr := Lib.hid hbr
            replace hok := Lib.hid hok
            go_wp2_with fail
            go_ret
            exact ⟨true, rfl, (fun h => by cases h), hbr.out⟩
          · have hb' : ¬ (20 : Int) < r.news.length := by omega
            have hgc := Lib.hid (GreatCrash_any wr r.cr r.KA r.PA r.kc r.pc)
            replace hxi := Lib.hid hxi
            replace htk := Lib.hid htk
            replace hsm := Lib.hid hsm
            replace hbr := Lib.hid hbr
            replace hok := Lib.hid hok
            go_wp2_with fail
            refine hgc.out.mono ?_
            rintro e w2 ⟨rb, rfl, hrb, hb2⟩
            have hbf := hbr.out.trans (hb2.mono hbz)
            clear hb2 hgc
            replace hrb := Lib.hid hrb
            have hbfz := hbf.size
            replace hbf := Lib.hid hbf
            clear q0 q1 q2 q3 q4 q5 hbl hbr hbz
            cases rb with
            | true =>
              go_wp2_with fail
              go_ret
              exact ⟨true, rfl, (fun h => by cases h), hbf.out⟩
            | false =>
              go_wp2_with fail
              go_loopw [3, 5, 6] (fun nv kv jv wr => ∃ (k : Nat) (z : Int), k ≤ r.bats.length ∧ kv = .int .i64 (k : Nat) ∧ nv = .int .i64 z ∧ (∀ x ∈ r.bats.take k, x.b.ops.length ≤ 60) ∧ Below w.heap.size w wr) (fun _ kv _ _ => r.bats.length - (intOf kv).toNat)
              case atStart => exact ⟨0, z, Nat.zero_le _, rfl, rfl, (fun x hx => by simp at hx), hbf.out⟩
              case round =>
                obtain ⟨k, y, hk, rfl, rfl, hs2, hbr⟩ := hrel
                have hbz := hbr.size
                obtain ⟨b', o', e', hbN', q0, q1, q2, q3, q4, q5⟩ := (h.out.below hbr hN).at_ hxi.out
                obtain ⟨rfl, rfl⟩ : b = b' ∧ o = o' := by
                  injection e' with e'
                  injection e' with e1 e2
                  exact ⟨e1, e2⟩
                clear e' hbN' q1 q2 q3 q4 q5
                have hbl : b < wr.heap.size := by omega
                by_cases hkl : k < r.bats.length
                · have hkl' : (k : Int) < r.bats.length := by omega
                  have hyi := List.getElem?_eq_getElem hkl
                  have hok2 := hok.out.each _ (List.getElem_mem hkl)
                  have htk2 : r.bats.take (k + 1) = r.bats.take k ++ [r.bats[k]] := by simp
                  generalize r.bats[k] = x at *
                  obtain ⟨bb, oo, hBAe, hbb, hcell⟩ := row_at mbC_len (by decide) (hok.out.bats.below (hbr.mono hN)) hyi
                  have a0 : wr.cell? ⟨bb, oo + k * 2, none⟩ = some (.int .u64 (x.b.seq : Nat)) := hcell 0 _ rfl
                  have a1 : wr.cell? ⟨bb, oo + k * 2 + 1, none⟩ = some x.v := hcell 1 _ rfl
                  obtain ⟨xA, xc, hxv, hxr⟩ := (hok2.below (hbr.mono hN) (Nat.le_refl _)).at_
                  rw [hxv] at a1
                  rw [hBAe] at q0
                  have hbbl : bb < wr.heap.size := by omega
                  have hgb := Lib.hid (BGreat_any (seq := x.b.seq) (cap := xc) hxr (by omega : N ≤ wr.heap.size))
                  replace hBAe := Lib.hid hBAe
                  replace hyi := Lib.hid hyi
                  replace htk2 := Lib.hid htk2
                  replace hs2 := Lib.hid hs2
                  replace hbr := Lib.hid hbr
                  replace hok2 := Lib.hid hok2
                  replace hxv := Lib.hid hxv
                  clear hcell hxr
                  go_wp2_with fail
                  refine hgb.out.mono ?_
                  rintro e w3 ⟨rb, rfl, hrb, hb3⟩
                  have hbg := hbr.out.trans (hb3.mono hbz)
                  clear hb3 hgb hbr hbz q0 a0 a1 hbl hbbl
                  replace hbg := Lib.hid hbg
                  cases rb with
                  | true =>
                    go_wp2_with fail
                    go_ret
                    exact ⟨true, rfl, (fun h => by cases h), hbg.out⟩
                  | false =>
                    have hx60 := hrb rfl
                    have hx60' : (x.b.ops.length : Int) ≤ 60 := by omega
                    clear hrb
                    go_wp2_with fail
                    go_loopw [3, 6] (fun nv jv wr => ∃ (j : Nat) (z : Int), j ≤ x.b.ops.length ∧ jv = .int .i64 (j : Nat) ∧ nv = .int .i64 z ∧ Below w.heap.size w wr) (fun _ jv _ => x.b.ops.length - (intOf jv).toNat)
                    case atStart => exact ⟨0, y, Nat.zero_le _, rfl, rfl, hbg.out⟩
                    case round =>
                      obtain ⟨j, y2, hj, rfl, rfl, hbr⟩ := hrel
                      have hbz := hbr.size
                      obtain ⟨b', o', e', hbN', q0, q1, q2, q3, q4, q5⟩ := (h.out.below hbr hN).at_ hxi.out
                      obtain ⟨rfl, rfl⟩ : b = b' ∧ o = o' := by
                        injection e' with e'
                        injection e' with e1 e2
                        exact ⟨e1, e2⟩
                      clear e' hbN' q1 q2 q3 q4 q5
                      obtain ⟨bb', oo', hBAe', hbb', hcell⟩ := row_at mbC_len (by decide) (hok.out.bats.below (hbr.mono hN)) hyi.out
                      obtain ⟨rfl, rfl⟩ : bb = bb' ∧ oo = oo' := by
                        have e' := hBAe.out.symm.trans hBAe'
                        injection e' with e'
                        injection e' with e1 e2
                        exact ⟨e1, e2⟩
                      have a1 : wr.cell? ⟨bb, oo + k * 2 + 1, none⟩ = some x.v := hcell 1 _ rfl
                      clear hcell hbb'
                      rw [hxv.out] at a1
                      rw [hBAe'] at q0
                      clear hBAe'
                      have hbl : b < wr.heap.size := by omega
                      have hbbl : bb < wr.heap.size := by omega
                      by_cases hjl : j < x.b.ops.length
                      · have hjl' : (j : Int) < x.b.ops.length := by omega
                        have hzi := List.getElem?_eq_getElem hjl
                        obtain ⟨xA', xc', hxv', hxr⟩ := (hok2.out.below (hbr.mono hN) (Nat.le_refl _)).at_
                        obtain ⟨rfl, _, rfl⟩ := Value.slice_inj (hxv.out.symm.trans hxv')
                        clear hxv'
                        obtain ⟨ba, pa, hae, hba, c0, c1, c2⟩ := OpsR.at_ hxr hzi
                        rw [hae] at a1
                        have hbal : ba < wr.heap.size := by omega
                        generalize bs x.b.ops[j].key = KK at *
                        generalize bs x.b.ops[j].value = VV at *
                        generalize x.b.ops[j].gone = GG at *
                        replace hae := Lib.hid hae
                        replace hzi := Lib.hid hzi
                        replace hbr := Lib.hid hbr
                        clear hxr
                        go_wp2_with fail
                        have hxc := @Ext.cell
                        refine wp_region_ext (by kernel_rfl) (by kernel_rfl) ?_
                        repeat (go_big_quiet_step ((first | fail)))
                        refine wpQuiet_nil ?_
                        clear hxc
                        intro wx hwx
                        obtain ⟨x, hx⟩ := hwx
                        have hb := x.below
                        rw [← hx] at hb
                        clear hx x
                        have hbx : Below w.heap.size w wx := hbr.out.trans (hb.mono hbz)
                        replace hbx := Lib.hid hbx
                        clear hb
                        go_wp2_with fail
                        exact ⟨⟨j + 1, _, by omega, by go_num, rfl, hbx.out⟩, by simp [intOf]; omega⟩
                      · have hjl' : ¬ (j : Int) < x.b.ops.length := by omega
                        replace hbr := Lib.hid hbr
                        go_wp2_with fail
                        refine ⟨⟨k + 1, _, by omega, by go_num, rfl, ?_, hbr.out⟩, by simp [intOf]; omega⟩
                        rw [htk2.out]
                        intro q hq
                        rcases List.mem_append.1 hq with hq | hq
                        · exact hs2.out q hq
                        · rw [List.mem_singleton.1 hq]; exact hx60
                · have hkl' : ¬ (k : Int) < r.bats.length := by omega
                  have hall : ∀ x ∈ r.bats, x.b.ops.length ≤ 60 := fun x hx => hs2 x (by rw [List.take_of_length_le (by omega)]; exact hx)
                  replace hall := Lib.hid hall
                  replace hs2 := Lib.hid hs2
                  replace hbr := Lib.hid hbr
                  go_wp2_with fail
                  refine ⟨⟨i + 1, _, by omega, by go_num, rfl, ?_, hbr.out⟩, by simp [intOf]; omega⟩
                  rw [htk.out]
                  intro q hq
                  rcases List.mem_append.1 hq with hq | hq
                  · exact hsm.out q hq
                  · rw [List.mem_singleton.1 hq]; exact ⟨by omega, by omega, hrb.out trivial, hall.out⟩
      · have hlt' : ¬ (i : Int) < l.length := by omega
        have hall : ∀ r ∈ l, RSmall r := fun r hr => hsm r (by rw [List.take_of_length_le (by omega)]; exact hr)
        replace hall := Lib.hid hall
        replace hsm := Lib.hid hsm
        replace hbr := Lib.hid hbr
        go_wp2_with fail
        go_ret
        exact ⟨_, rfl, fun _ => ⟨by omega, hall.out⟩, hbr.out⟩
end Go.Proofs.YtdbpfemkjfogoaaGreatDoor
