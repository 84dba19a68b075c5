/- DiskTail: the walk. -/
import Derived.Test.YtkhicfoikkllmaaDTlW
namespace Go.Proofs.Ytkhicfoikkllmaa
open Go.RowKit
set_option linter.unusedVariables false
set_option linter.unusedSimpArgs false
set_option maxRecDepth 100000 in
set_option maxHeartbeats 8000000 in
theorem Tails_any (w : World) (room : Int) (A : Option Addr) (l : List MAct) (cap : Nat) (c : Cra) (KA PA : Option Addr) (kc pc : Nat) (hl : ActsAt w.heap.size w A l) (hc : CraR w.heap.size w c KA PA) (hll : l.length ≤ maxLen) :
    Calls Try.prog 4 #[.int .i64 room, .slice A l.length cap, craV c KA kc PA pc] w fun e w' => e = .returned (.bool true) ∧ Below w.heap.size w w' := by
  have hal : Below w.heap.size w (w.alloc (.cells #[.int .i64 c.names, .slice KA c.keep.length kc, .slice PA c.spoil.length pc] 26)) := (Below.refl _ _).alloc (Nat.le_refl _) _
  have hC1 : Blk (w.alloc (.cells #[.int .i64 c.names, .slice KA c.keep.length kc, .slice PA c.spoil.length pc] 26)) w.heap.size 26 #[.int .i64 c.names, .slice KA c.keep.length kc, .slice PA c.spoil.length pc] := Blk.new _ _ _
  have hl1 := hl.below hal (Nat.le_refl _)
  have hc1 := hc.below hal (Nat.le_refl _)
  have hgl := Great_any _ A l cap hl1 hal.size hll
  have hawk := awake_any
  have hgc := fun (W : World) => GreatCrash_any W c KA PA kc pc
  have hzW : (w.alloc (.cells #[.int .i64 c.names, .slice KA c.keep.length kc, .slice PA c.spoil.length pc] 26)).heap.size = w.heap.size + 1 := by simp
  unfold craV at hgc ⊢
  replace hgl := Lib.hid hgl
  replace hgc := Lib.hid hgc
  replace hawk := Lib.hid hawk
  replace hl := Lib.hid hl
  replace hc := Lib.hid hc
  replace hl1 := Lib.hid hl1
  replace hc1 := Lib.hid hc1
  replace hal := Lib.hid hal
  replace hC1 := Lib.hid hC1
  replace hzW := Lib.hid hzW
  go_enter Try.func4, Try.ntmps4
  go_wp2_with fail
  generalize hW : w.alloc (.cells #[.int .i64 c.names, .slice KA c.keep.length kc, .slice PA c.spoil.length pc] 26) = W1 at *
  clear hW
  have hzw := hzW.out
  refine hgl.out.mono ?_
  rintro e w2 ⟨r, rfl, hr, hb2⟩
  have hz2 := hb2.size
  cases r with
  | true =>
    replace hb2 := Lib.hid hb2
    go_wp2_with fail
    refine (hawk.out _).mono ?_
    rintro e wz ⟨rfl, hbz⟩
    have hfin := hal.out.trans ((hb2.out.trans (hbz.mono hb2.out.size)).mono (by omega))
    replace hfin := Lib.hid hfin
    clear hbz
    go_wp2_with fail
    go_ret
    exact ⟨rfl, hfin.out⟩
  | false =>
  obtain ⟨hl120, hls⟩ := hr rfl
  have hC3 := hC1.out.below hb2 (by omega)
  have q0 := hC3.cell 0
  have q1 := hC3.cell 1
  have q2 := hC3.cell 2
  have hzc := hC3.lt
  replace hls := Lib.hid hls
  replace hb2 := Lib.hid hb2
  clear hr hgl
  go_wp2_with fail
  refine (hgc.out _).mono ?_
  rintro e w4 ⟨r, rfl, hr, hb4⟩
  have hB4 := hb2.out.trans (hb4.mono hz2)
  have hz4 := hB4.size
  clear hb4
  cases r with
  | true =>
    replace hB4 := Lib.hid hB4
    clear q0 q1 q2
    go_wp2_with fail
    refine (hawk.out _).mono ?_
    rintro e wz ⟨rfl, hbz⟩
    have hfin := hal.out.trans ((hB4.out.trans (hbz.mono hB4.out.size)).mono (by omega))
    replace hfin := Lib.hid hfin
    clear hbz
    go_wp2_with fail
    go_ret
    exact ⟨rfl, hfin.out⟩
  | false =>
  obtain ⟨hck, hcp⟩ := hr rfl
  replace hB4 := Lib.hid hB4
  clear hr q0 q1 q2 hgc hC3
  have hnew := New_dw room w4
  replace hnew := Lib.hid hnew
  go_wp2_with fail
  refine hnew.out.mono ?_
  rintro e w5 ⟨d, rfl, h5, b5⟩
  have hpl := plays_dw h5 (.new room) (Nat.zero_le _) A l cap ((hl1.out.below hB4.out (by omega)).below b5 (by omega)) (by omega) hl120 hls.out
  replace hpl := Lib.hid hpl
  go_wp2_with fail
  refine hpl.out.mono ?_
  rintro e w6 ⟨v, rfl, h6, b6⟩
  have g6 := Dsk.Good.acts (acts l) (.new room) (fun x hx => by
    unfold acts at hx
    obtain ⟨y, hy, rfl⟩ := List.mem_map.1 hx
    exact (hl.out.ok y hy).n)
  have hal' : (acts l).length = l.length := by unfold acts; simp
  rw [hal', Nat.zero_add] at g6
  generalize hsP : (Dsk.new room).acts (acts l) = sP at *
  clear hsP hal'
  have hst := Start_dw h6
  replace hst := Lib.hid hst
  replace b5 := Lib.hid b5
  go_wp2_with fail
  refine hst.out.mono ?_
  rintro e w7 ⟨rfl, h7, b7⟩
  have hfu := Fuse_dw h7 0
  replace hfu := Lib.hid hfu
  go_wp2_with fail
  refine hfu.out.mono ?_
  rintro e w8 ⟨rfl, h8, b8⟩
  have g8 : (sP.start.setFuse 0).Good l.length := g6.start.setFuse (by omega)
  have hds := DirSync_dw h8 g8
  obtain ⟨t1, t2, t3, t4⟩ := @tail_begin sP
  have g10 := g8.dirsync
  generalize hs10 : (sP.start.setFuse 0).dirsync = r10 at *
  obtain ⟨s, e10⟩ := r10
  simp only [] at hds g10 t1 t2 t3 t4
  subst t1
  replace hs10 := Lib.hid hs10
  replace hds := Lib.hid hds
  replace t2 := Lib.hid t2
  replace t3 := Lib.hid t3
  replace t4 := Lib.hid t4
  go_wp2_with fail
  refine hds.out.mono ?_
  rintro e w10 ⟨rfl, h10, b10⟩
  have hz4' : w4.heap.size ≤ w10.heap.size := h10.size
  have hB10 := (((b5.out.trans b6).trans b7).trans b8).trans b10
  clear b6 b7 b8 b10 h7 h8 h6 h5
  have htw := two_twin h10 g10 (by omega)
  replace htw := Lib.hid htw
  replace h10 := Lib.hid h10
  replace hB10 := Lib.hid hB10
  go_wp2_with fail
  refine htw.out.mono ?_
  rintro e w11 ⟨a, rfl, hT, hb11⟩
  have hz11 : w4.heap.size ≤ w11.heap.size := by have := hb11.size; omega
  have hB11 := hB10.out.trans hb11
  have htw2 := hT.twin hz11 g10 (by omega)
  replace htw2 := Lib.hid htw2
  replace hB11 := Lib.hid hB11
  clear hb11 htw
  go_wp2_with fail
  refine htw2.out.mono ?_
  rintro e w12 ⟨t, rfl, hT12, hb12⟩
  have hz12 : w4.heap.size ≤ w12.heap.size := by have := hb12.size; omega
  have hB12 := hB11.out.trans hb12
  have hcr := hT12.crash hz12 g10 (by omega) ⟨0, [], []⟩ none none 0 0 (craAt_none _) (fun ad e => by rcases e with ⟨_, e⟩ | ⟨_, e⟩ <;> cases e)
  unfold craV at hcr
  replace hcr := Lib.hid hcr
  replace hB12 := Lib.hid hB12
  clear hb12 htw2 hT
  go_wp2_with fail
  refine hcr.out.mono ?_
  rintro e w13 ⟨rfl, hT13, hb13⟩
  have hz13 : w4.heap.size ≤ w13.heap.size := by have := hb13.size; omega
  have hB13 := hB12.out.trans hb13
  have hst := hT13.start hz13
  replace hst := Lib.hid hst
  replace hB13 := Lib.hid hB13
  clear hb13 hcr hT12
  go_wp2_with fail
  refine hst.out.mono ?_
  rintro e w14 ⟨rfl, hT14, hb14⟩
  have hz14 : w4.heap.size ≤ w14.heap.size := by have := hb14.size; omega
  have hB14 := hB13.out.trans hb14
  have hBA := hB4.out.trans (hB14.mono hz4)
  have hC14 := hC1.out.below hBA (by omega)
  have q0 := hC14.cell 0
  have q1 := hC14.cell 1
  have q2 := hC14.cell 2
  have hq := hC14.lt
  have hcr2 := hT14.swap.crash hz14 g10 (by omega) c KA PA kc pc ((hc1.out.below hBA (by omega)).at_ (by omega) hck hcp) (fun ad e => by have := hc1.out.under (Nat.le_refl _) ad e; omega)
  unfold craV at hcr2
  replace hcr2 := Lib.hid hcr2
  replace hB14 := Lib.hid hB14
  clear hb14 hst hT13
  go_wp2_with fail
  refine hcr2.out.mono ?_
  rintro e w15 ⟨rfl, hT15, hb15⟩
  have hz15 : w4.heap.size ≤ w15.heap.size := by have := hb15.size; omega
  have hB15 := hB14.out.trans hb15
  have hst := hT15.start hz15
  replace hst := Lib.hid hst
  replace hB15 := Lib.hid hB15
  clear hb15 hcr2 hT14 q0 q1 q2 hC14 hBA
  go_wp2_with fail
  refine hst.out.mono ?_
  rintro e w16 ⟨rfl, hT16, hb16⟩
  have hz16 : w4.heap.size ≤ w16.heap.size := by have := hb16.size; omega
  have hB16 := hB15.out.trans hb16
  obtain ⟨cn1, _, _⟩ := crash_all t3.out t4.out c
  have hnl := g10.names
  have hcn : (s.crash c).start.names = s.names := cn1
  have hls1 := hT16.listA (by rw [hcn]; omega)
  rw [hcn] at hls1
  replace hls1 := Lib.hid hls1
  replace hB16 := Lib.hid hB16
  replace hcn := Lib.hid hcn
  replace cn1 := Lib.hid cn1
  clear hb16 hst hT15
  go_wp2_with fail
  refine hls1.out.mono ?_
  rintro e w17 ⟨v1, rfl, hrow1, hb17⟩
  have hT17 := hT16.below hb17
  have hz17 : w4.heap.size ≤ w17.heap.size := by have := hb17.size; omega
  have hB17 := hB16.out.trans (hb17.mono hz16)
  obtain ⟨A1, k1, rfl, hat1⟩ := names_form hrow1
  have hls2 := hT17.listT (by omega)
  replace hls2 := Lib.hid hls2
  replace hB17 := Lib.hid hB17
  clear hb17 hls1 hT16 hrow1
  replace hat1 := Lib.hid hat1
  go_wp2_with fail
  refine hls2.out.mono ?_
  rintro e w18 ⟨v2, rfl, hrow2, hb18⟩
  have hT18 := hT17.below hb18
  have hz18 : w4.heap.size ≤ w18.heap.size := by have := hb18.size; omega
  have hB18 := hB17.out.trans (hb18.mono hz17)
  obtain ⟨A2, k2, rfl, _⟩ := names_form hrow2
  have hat : ∀ (i : Nat) (p : List UInt8 × Nat), s.names[i]? = some p → ∃ gg, A1 = some ⟨gg, 0, none⟩ ∧ gg < w18.heap.size ∧ w18.cell? ⟨gg, i, none⟩ = some (.string (bs p.1)) := fun i p hi => by
    obtain ⟨gg, e1, e2, e3⟩ := hat1.out i p hi
    exact ⟨gg, e1, Nat.lt_of_lt_of_le e2 hb18.size, (hb18.cell (p := ⟨gg, i, none⟩) e2).trans e3⟩
  have hkeys := hT18.swap.keys
  have hpairs : s.names.Pairwise (fun p q => p.1 ≠ q.1) := by
    have e : (s.crash ⟨0, [], []⟩).start.names = s.names := (crash_all t3.out t4.out ⟨0, [], []⟩).1
    rw [e] at hkeys
    exact hkeys
  clear hkeys
  replace hT18 := Lib.hid hT18
  replace hB18 := Lib.hid hB18
  replace hat := Lib.hid hat
  replace hpairs := Lib.hid hpairs
  clear hb18 hls2 hT17 hrow2 hat1
  generalize hnn : s.names.length = nn at *
  replace g10 := Lib.hid g10
  go_wp2_with fail
  go_loopw [11] (fun iv wr => ∃ i : Nat, i ≤ nn ∧ iv = .int .i64 (i : Nat) ∧ Below w18.heap.size w18 wr) (fun iv _ => nn - (intOf iv).toNat)
  case atStart => exact ⟨0, Nat.zero_le _, rfl, Below.refl _ _⟩
  case round =>
    obtain ⟨i, hi, rfl, hbr⟩ := hrel
    by_cases hlt : i < nn
    · have hlt' : (i : Int) < nn := by omega
      have hei : s.names[i]? = some s.names[i] := List.getElem?_eq_getElem (by omega)
      have hgm := getM_self s.names hpairs.out _ (List.getElem_mem (show i < s.names.length by omega))
      obtain ⟨h24, _⟩ := g10.out.ok.names _ (List.getElem_mem (show i < s.names.length by omega))
      obtain ⟨gg, rfl, hgg, x1⟩ := hat.out i _ hei
      generalize s.names[i] = p at *
      obtain ⟨f, lb, hfk, hfd, ra, rb, rz, htb⟩ := tail_law g10.out.ok t2.out t3.out t4.out c hgm
      have hTr := hT18.out.below hbr
      have q1 := (hbr.cell (p := ⟨gg, i, none⟩) hgg).trans x1
      have hzr := hbr.size
      have hgr : gg < wr.heap.size := by omega
      have ca := hTr.swap.readA ((g10.out.crash ⟨0, [], []⟩).start.ok) h24 ra
      have cb := hTr.readA ((g10.out.crash c).start.ok) h24 rb
      have cz := hTr.readT g10.out.ok h24 rz
      replace ca := Lib.hid ca
      replace cb := Lib.hid cb
      replace cz := Lib.hid cz
      replace hTr := Lib.hid hTr
      replace ra := Lib.hid ra
      replace rb := Lib.hid rb
      replace rz := Lib.hid rz
      replace htb := Lib.hid htb
      replace hei := Lib.hid hei
      replace hgm := Lib.hid hgm
      replace hbr := Lib.hid hbr
      clear x1
      have f1 : (bs (f.d.take f.k)).size ≤ (bs lb).size := by
        rw [bs_size, bs_size, List.length_take]
        have := htb.out.lo
        omega
      have f2 : (bs lb).size ≤ (bs f.d).size := by
        rw [bs_size, bs_size]
        exact htb.out.hi
      have f3 : (((bs lb).extract 0 (bs (f.d.take f.k)).size).toList == (bs (f.d.take f.k)).toList) = true := by
        have e : ((bs lb).extract 0 (bs (f.d.take f.k)).size).toList = (bs (f.d.take f.k)).toList := by
          rw [bs_toList, ByteArray.toList_eq]
          rw [show ((bs lb).extract 0 (bs (f.d.take f.k)).size).data.toList = ((bs lb).data.toList.take (bs (f.d.take f.k)).size) from by simp [ByteArray.data_extract]]
          rw [bs_data, bs_size, List.length_take, Nat.min_eq_left hfk]
          exact htb.out.same
        rw [e]
        simp
      have f1' : ¬ (bs lb).size < (bs (f.d.take f.k)).size := by omega
      have f2' : ¬ (bs f.d).size < (bs lb).size := by omega
      have fbz : (bs f.d).size ≤ 1048576 := by rw [bs_size]; exact hfd
      obtain ⟨sq, hsq⟩ := htb.out.spot
      have hsp : ∀ k, (bs (f.d.take f.k)).size ≤ k → k < (bs lb).size → (bs lb).data.toList[k]? ≠ (bs f.d).data.toList[k]? → sq ≤ k ∧ k < sq + 4 := fun k h1 h2 h3 => by
        rw [bs_data, bs_data] at h3
        rw [bs_size, List.length_take, Nat.min_eq_left hfk] at h1
        rw [bs_size] at h2
        exact hsq k h1 h2 h3
      clear hsq
      replace hsp := Lib.hid hsp
      generalize bs (f.d.take f.k) = SA at *
      generalize bs lb = SB at *
      generalize bs f.d = SZ at *
      go_wp2_with fail
      refine ca.out.mono ?_
      rintro e w' ⟨rfl, rfl⟩
      go_wp2_with fail
      refine cb.out.mono ?_
      rintro e w' ⟨rfl, rfl⟩
      go_wp2_with fail
      refine cz.out.mono ?_
      rintro e w' ⟨rfl, rfl⟩
      go_wp2_with fail
      go_loopw [18, 19] (fun fv kv wq => ∃ k : Nat, SA.size ≤ k ∧ k ≤ SB.size ∧ kv = .int .i64 (k : Nat) ∧ (fv = .int .i64 (-1) ∨ ∃ ff : Nat, fv = .int .i64 (ff : Nat) ∧ sq ≤ ff ∧ ff ≤ k) ∧ Below w18.heap.size w18 wq) (fun _ kv _ => SB.size - (intOf kv).toNat)
      case atStart => exact ⟨SA.size, Nat.le_refl _, f1, rfl, .inl rfl, hbr.out⟩
      case round =>
        obtain ⟨k, hk1, hk2, rfl, hfv, hbq⟩ := hrel
        by_cases hkl : k < SB.size
        · have hkl' : (k : Int) < SB.size := by omega
          have hkz : k < SZ.size := by omega
          have hkz' : (k : Int) < SZ.size := by omega
          replace hbq := Lib.hid hbq
          replace hfv := Lib.hid hfv
          go_wp2_with fail
          have hxc := @Ext.cell
          have hxf := @Ext.frozen
          refine wp_hide (fun Q0 hQ0 => ?_)
          refine wp_region_line (fun w' => ∃ x : Ext _, w' = x.w) [some false, some false, some false, some false, some false, some false, some false] 0 (by kernel_rfl) (by kernel_rfl) ⟨⟨_, (Below.refl _ _).drew⟩, rfl⟩ ?_
          simp only [earlyL, tailL]
          repeat (first | ((with_reducible refine wpMix_p ?_); go_big_quiet_step (fail); refine wpQuiet_nil ?_) | ((with_reducible refine wpMix_e ?_); go_big_quiet_step ((first | fail)); refine wpQuiet_nil ?_))
          refine wpMix_nil ?_
          clear hxc hxf
          intro wx hwx
          obtain ⟨x, hx⟩ := hwx
          have hb := x.below
          rw [← hx] at hb
          clear hx x
          refine wpTail_nil ?_
          refine hQ0 _ _ ?_
          clear hQ0 Q0
          have hdif : SB[k].toNat ≠ SZ[k].toNat → sq ≤ k ∧ k < sq + 4 := fun h => hsp.out k hk1 hkl fun e => h (by
            have e1 : SB.data.toList[k]? = some SB[k] := by simp [ByteArray.getElem_eq_getElem_data, hkl, Array.getElem?_eq_getElem]
            have e2 : SZ.data.toList[k]? = some SZ[k] := by simp [ByteArray.getElem_eq_getElem_data, hkz, Array.getElem?_eq_getElem]
            rw [e1, e2] at e
            injection e with e
            rw [e])
          generalize SB[k].toNat = x1 at *
          generalize SZ[k].toNat = x2 at *
          have hbx := hbq.out.trans (hb.mono hbq.out.size)
          by_cases hx : x1 = x2
          · subst hx
            go_wp2_with fail
            exact ⟨⟨k + 1, by omega, by omega, rfl, by
              rcases hfv.out with h | ⟨ff, h1, h2, h3⟩
              · exact .inl h
              · exact .inr ⟨ff, h1, h2, by omega⟩, hbx⟩, by first | omega | (simp only [intOf]; omega)⟩
          · obtain ⟨hs1, hs2⟩ := hdif hx
            have hx' : ¬ (x1 : Int) = x2 := by omega
            rcases hfv.out with rfl | ⟨ff, rfl, h2, h3⟩
            · go_wp2_with fail
              exact ⟨⟨k + 1, by omega, by omega, rfl, .inr ⟨k, rfl, hs1, by omega⟩, hbx⟩, by first | omega | (simp only [intOf]; omega)⟩
            · have hff : ¬ (ff : Int) < 0 := by omega
              have hf4 : ¬ (4 : Int) ≤ (k : Int) - ff := by omega
              go_wp2_with fail
              exact ⟨⟨k + 1, by omega, by omega, rfl, .inr ⟨ff, rfl, h2, by omega⟩, hbx⟩, by first | omega | (simp only [intOf]; omega)⟩
        · obtain rfl : k = SB.size := by omega
          have hkl' : ¬ (SB.size : Int) < SB.size := by omega
          replace hbq := Lib.hid hbq
          replace hfv := Lib.hid hfv
          go_wp2_with fail
          exact ⟨⟨i + 1, by omega, rfl, hbq.out⟩, by first | omega | (simp only [intOf]; omega)⟩
    · obtain rfl : i = nn := by omega
      have hlt' : ¬ (i : Int) < i := by omega
      have hBr := hB4.out.trans ((hB18.out.trans (hbr.mono hz18)).mono hz4)
      replace hBr := Lib.hid hBr
      replace hbr := Lib.hid hbr
      go_wp2_with fail
      refine (hawk.out _).mono ?_
      rintro e wz ⟨rfl, hbz⟩
      have hfin := hal.out.trans ((hBr.out.trans (hbz.mono hBr.out.size)).mono (by omega))
      replace hfin := Lib.hid hfin
      clear hbz
      go_wp2_with fail
      go_ret
      exact ⟨rfl, hfin.out⟩
end Go.Proofs.Ytkhicfoikkllmaa
