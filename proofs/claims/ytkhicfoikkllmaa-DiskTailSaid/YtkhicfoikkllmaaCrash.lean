/- Contracts: Crash. -/
import Derived.Test.YtkhicfoikkllmaaCrashS
namespace Go.Proofs.Ytkhicfoikkllmaa
open Go.RowKit
set_option linter.unusedVariables false
set_option linter.unusedSimpArgs false
set_option maxRecDepth 100000 in
set_option maxHeartbeats 4000000 in
theorem Crash_any {w : World} {F : Nat → Prop} {d : Nat} {L : Lay} {s : Dsk} (h : DskAt w F d L s) (ok : s.Ok) (hld : s.load ≤ 536870912) (c : Cra) (KA PA : Option Addr) (kc pc : Nat) (hc : CraAt w c KA PA)
    (hA : ∀ ad, (c.keep ≠ [] ∧ KA = some ad) ∨ (c.spoil ≠ [] ∧ PA = some ad) → ¬ F ad.block) :
    Calls Try.prog 19 #[.pointer (some ⟨d, 0, none⟩), craV c KA kc PA pc] w fun e w' => e = .returned (.tuple #[]) ∧ Went w w' F d (s.crash c) := by
  have hF := h.inF
  obtain ⟨n, hn⟩ : ∃ n : Nat, n = (min (max c.names 0) s.chg.length).toNat := ⟨_, rfl⟩
  obtain ⟨l, hl⟩ : ∃ l, (s.chg.take n).foldl doesC s.last = l := ⟨_, rfl⟩
  have hres : s.crash c = s2 s l (crashGo c l s.files 0) := by
    unfold Dsk.crash
    rw [← hn, hl]
    rfl
  rw [hres]
  clear hres
  have hdl := h.lt
  have hA1 : Below w.heap.size w (w.alloc (.cells #[.int .i64 c.names, .slice KA c.keep.length kc, .slice PA c.spoil.length pc] 26)) := (Below.refl w.heap.size w).alloc (Nat.le_refl _) _
  have hC1 : Blk (w.alloc (.cells #[.int .i64 c.names, .slice KA c.keep.length kc, .slice PA c.spoil.length pc] 26)) w.heap.size 26 #[.int .i64 c.names, .slice KA c.keep.length kc, .slice PA c.spoil.length pc] := Blk.new _ _ _
  have hD1 := h.below hA1
  have hno := none_any hD1
  have c4 := hD1.box.cell 4
  have f4 := hD1.box.frozen 4
  have hk2 : KeptBut (w.alloc (.cells #[.int .i64 c.names, .slice KA c.keep.length kc, .slice PA c.spoil.length pc] 26)) ((w.alloc (.cells #[.int .i64 c.names, .slice KA c.keep.length kc, .slice PA c.spoil.length pc] 26)).setCell ⟨d, 4, none⟩ (.bool true)) (fun k => k = d) := (KeptBut.refl _ _).then_set rfl
  have hD2 := hD1.rebox (s' := { s with off := true }) hk2 (by simpa using hD1.box.set_ 4 (.bool true)) rfl rfl rfl rfl
  have hC2 := hC1.keptB hk2 (by omega)
  have hK2 := (KeptBut.of_below hA1 (S := F)).trans hk2 (fun k _ e => e ▸ hF.1)
  have hsw : (w.alloc (.cells #[.int .i64 c.names, .slice KA c.keep.length kc, .slice PA c.spoil.length pc] 26)).setCell ⟨d, 4, none⟩ (.bool true) = (w.setCell ⟨d, 4, none⟩ (.bool true)).alloc (.cells #[.int .i64 c.names, .slice KA c.keep.length kc, .slice PA c.spoil.length pc] 26) := World.setCell_alloc_past _ _ _ _ hdl
  rw [hsw] at hD2 hC2 hK2
  clear hsw
  replace hno := Lib.hid hno
  replace hD2 := Lib.hid hD2
  replace hC2 := Lib.hid hC2
  replace hK2 := Lib.hid hK2
  replace hC1 := Lib.hid hC1
  replace hA1 := Lib.hid hA1
  clear hk2
  unfold craV
  go_enter Try.func19, Try.ntmps19
  go_wp2_with fail
  refine hno.out.mono ?_
  rintro e w' ⟨rfl, rfl⟩
  go_wp2_with fail
  replace hD2 := hD2.out
  replace hC2 := hC2.out
  replace hK2 := hK2.out
  clear c4 f4 hD1 hC1 hA1 hno
  generalize hw2 : (w.setCell ⟨d, 4, none⟩ (.bool true)).alloc (.cells #[.int .i64 c.names, .slice KA c.keep.length kc, .slice PA c.spoil.length pc] 26) = w2 at *
  clear hw2
  obtain ⟨A, cap, hvc, hcap1, hcap2, hat⟩ := chg_form hD2
  simp only [] at hcap1 hat hvc
  have b3 : w2.cell? ⟨d, 3, none⟩ = some (.slice A s.chg.length cap) := by
    have := hD2.box.cell 3
    rw [hvc] at this
    exact this
  have q0 := hC2.cell 0
  have lC := hC2.lt
  have lD := hD2.lt
  have hnle : n ≤ s.chg.length := by omega
  have hm2 : min (max c.names 0) (s.chg.length : Int) = (n : Int) := by omega
  have hncap : (n : Int) ≤ cap := by omega
  have hmA := add_zero_map A
  replace hat := Lib.hid hat
  replace hvc := Lib.hid hvc
  replace hK2 := Lib.hid hK2
  replace hn := Lib.hid hn
  replace hl := Lib.hid hl
  have hxc := @Ext.cell
  have hxf := @Ext.frozen
  refine wp_hide (fun Q0 hQ0 => ?_)
  refine wp_region_line (fun w' => ∃ x : Ext _, w' = x.w) [some false, some false, some false, some false, some false, some false, some false, some false, some false, some false, some false, some false, some false, some false, some false, some false] 0 (by kernel_rfl) (by kernel_rfl) ⟨⟨_, (Below.refl _ _).drew⟩, rfl⟩ ?_
  simp only [earlyL, tailL]
  repeat (first | ((with_reducible refine wpMix_p ?_); go_big_quiet_step (fail); refine wpQuiet_nil ?_) | ((with_reducible refine wpMix_e ?_); go_big_quiet_step ((first | fail)); refine wpQuiet_nil ?_))
  refine wpMix_nil ?_
  clear hxc hxf
  intro wx hwx
  obtain ⟨x, hx⟩ := hwx
  have hb := x.below
  rw [← hx] at hb
  clear hx x
  refine wpTail_nil ?_
  refine hQ0 _ _ ?_
  clear hQ0 Q0
  have hD3 := hD2.below hb
  have hC3 := hC2.below hb lC
  have hK3 := hK2.out.then_below hb
  clear b3 q0 hm2 hmA hb
  replace hD2 := Lib.hid hD2
  replace hC2 := Lib.hid hC2
  replace hD3 := Lib.hid hD3
  replace hC3 := Lib.hid hC3
  replace hK3 := Lib.hid hK3
  go_wp2_with fail
  go_loopw [30] (fun v wr => ∃ i : Nat, i ≤ n ∧ v = .int .i64 i ∧ DskAt wr F d L { s with off := true, last := (s.chg.take i).foldl doesC s.last } ∧ Blk wr w.heap.size 26 #[.int .i64 c.names, .slice KA c.keep.length kc, .slice PA c.spoil.length pc] ∧ KeptBut w wr F) (fun v _ => n - (intOf v).toNat)
  case atStart => exact ⟨0, Nat.zero_le _, rfl, hD3.out, hC3.out, hK3.out⟩
  case round =>
    obtain ⟨i, hi, rfl, hDr, hCr, hKr⟩ := hrel
    by_cases hlt : i < n
    · have hlt' : (i : Int) < n := by omega
      have hci : s.chg[i]? = some s.chg[i] := List.getElem?_eq_getElem (by omega)
      obtain ⟨A', cap', hvc', _, _, hat'⟩ := chg_form hDr
      simp only [] at hvc' hat'
      obtain ⟨g, e, hown, hgl, x0, x1, x2⟩ := hat' i _ hci
      have hvv := hvc.out.symm.trans hvc'
      simp only [Value.slice.injEq, true_and] at hvv
      obtain ⟨hv1, hv2⟩ := hvv
      rw [← hv1] at e
      subst e
      clear hvc' hv1 hv2 hat' hown
      obtain ⟨pa, hpa⟩ := ptrV_form (s.chg[i].f.map L.blk)
      rw [hpa] at x2
      obtain ⟨y1, y2, y3, y4⟩ := ok.chg _ (List.getElem_mem (show i < s.chg.length by omega))
      have hlen := doesAll_len (s.chg.take i) s.last
      rw [List.length_take] at hlen
      have hld' := hld
      unfold Dsk.load at hld'
      generalize s.chg[i] = ch at *
      replace hpa := Lib.hid hpa
      replace hDr := Lib.hid hDr
      replace hCr := Lib.hid hCr
      replace hKr := Lib.hid hKr
      replace hci := Lib.hid hci
      go_wp2_with fail
      have hAl : Below wr.heap.size wr (wr.alloc (.cells #[.string (bs ch.fr), .string (bs ch.to), .pointer pa] 68)) := (Below.refl _ _).alloc (Nat.le_refl _) _
      have hX5 : Blk (wr.alloc (.cells #[.string (bs ch.fr), .string (bs ch.to), .pointer pa] 68)) wr.heap.size 68 #[.string (bs ch.fr), .string (bs ch.to), .pointer pa] := Blk.new _ _ _
      have hD5 := hDr.out.below hAl
      have hC5 := hCr.out.below hAl hCr.out.lt
      have hK5 := hKr.out.then_below hAl
      generalize hw5 : wr.alloc (.cells #[.string (bs ch.fr), .string (bs ch.to), .pointer pa] 68) = w5 at *
      clear hw5 hAl x0 x1 x2
      have x0 := hX5.cell 0
      have x1 := hX5.cell 1
      have x2 := hX5.cell 2
      have b2 := hD5.box.cell 2
      have hl5 := hX5.lt
      have hd5 := hD5.lt
      have hc5 := hC5.lt
      replace hD5 := Lib.hid hD5
      replace hC5 := Lib.hid hC5
      replace hK5 := Lib.hid hK5
      replace hX5 := Lib.hid hX5
      have hxc := @Ext.cell
      have hxf := @Ext.frozen
      refine wp_hide (fun Q0 hQ0 => ?_)
      refine wp_region_line (fun w' => ∃ x : Ext _, w' = x.w) [some false, some false, some false, some false, some false, none] 0 (by kernel_rfl) (by kernel_rfl) ⟨⟨_, (Below.refl _ _).drew⟩, rfl⟩ ?_
      simp only [earlyL, tailL]
      repeat (first | ((with_reducible refine wpMix_p ?_); go_big_quiet_step (fail); refine wpQuiet_nil ?_) | ((with_reducible refine wpMix_e ?_); go_big_quiet_step ((first | fail)); refine wpQuiet_nil ?_))
      refine wpMix_nil ?_
      clear hxc hxf
      intro wx hwx
      obtain ⟨x, hx⟩ := hwx
      have hb := x.below
      rw [← hx] at hb
      clear hx x
      have hD6 := hD5.out.below hb
      have hC6 := hC5.out.below hb hc5
      have hK6 := hK5.out.then_below hb
      have hcall := does_any wx L.gL ((s.chg.take i).foldl doesC s.last) L.blk ch hD6.last y1 y2 y4 (by omega)
      unfold chgVal at hcall
      rw [hpa.out] at hcall
      clear x0 x1 x2 b2 hb
      replace hcall := Lib.hid hcall
      refine wpTail_step ?_
      intro Q1 hQ1
      go_wp2_with fail
      refine hcall.out.mono ?_
      rintro e w7 ⟨rfl, hm7, hk7⟩
      have hD7 := hD6.relasts hk7 hm7 (fun p hp => by
        rcases doesC_mem hp with h1 | ⟨h1, rfl⟩
        · exact hD6.live.2.1 p h1
        · obtain ⟨i', hi'⟩ := Option.ne_none_iff_exists'.1 (y4 h1)
          simp only [hi', Option.getD_some]
          exact hD6.live.2.2.1 _ (List.mem_of_getElem? hci.out) _ hi')
      have hC7 := hC6.keptB hk7 (fun e => map_ne_blk hD6.last hC6 e.symm)
      have hK7 := hK6.trans hk7 (fun k _ e => e ▸ hF.2.2.1)
      have htk : doesC ((s.chg.take i).foldl doesC s.last) ch = (s.chg.take (i + 1)).foldl doesC s.last := by
        rw [List.take_add_one, hci.out, List.foldl_append]
        rfl
      rw [htk] at hD7
      replace hD7 := Lib.hid hD7
      replace hC7 := Lib.hid hC7
      replace hK7 := Lib.hid hK7
      clear hk7 hm7 hK6 hC6 hD6 htk
      go_wp2_with fail
      refine hQ1 _ _ rfl (fun h => absurd h (by decide)) ?_
      clear hQ1 Q1 hcall
      refine wpTail_nil ?_
      refine hQ0 _ _ ?_
      clear hQ0 Q0
      go_wp2_with fail
      go_roundw
      case rel => exact ⟨i + 1, by omega, by rfl, hD7.out, hC7.out, hK7.out⟩
      case measure => first | omega | (simp only [intOf]; omega)
    · obtain rfl : i = n := by omega
      have hlt' : ¬ (i : Int) < i := by omega
      have hll := doesAll_len (s.chg.take i) s.last
      rw [List.length_take] at hll
      have hld' := hld
      unfold Dsk.load at hld'
      have hl24 := doesAll_ok (n := s.files.length) (s.chg.take i) s.last ok.last (fun x hx => ok.chg x (List.mem_of_mem_take hx))
      have hlx := hl.out
      rw [hlx] at hll hl24 hDr
      clear hlx
      have hll' : l.length ≤ 536870912 := by omega
      clear hll hld'
      have hcl := Clone_any hDr.last
      have b2 := hDr.box.cell 2
      have hdr := hDr.lt
      replace hcl := Lib.hid hcl
      replace hl24 := Lib.hid hl24
      go_wp2_with fail
      refine hcl.out.mono ?_
      rintro e w8 ⟨rfl, hm8, hb8, hlt8⟩
      have hbx := hDr.box.below hb8 hdr
      have g1 := hbx.frozen 1
      have g3 := hbx.frozen 3
      have b1 := hbx.cell 1
      have b3 := hbx.cell 3
      have hC8 := hCr.below hb8 hCr.lt
      have hk9 := ((KeptBut.refl w8 (fun k => k = d)).then_set (b := d) (o := 1) (v := .map (some wr.heap.size)) rfl).then_set (b := d) (o := 3) (v := .slice none 0 0) rfl
      obtain ⟨hD9, hK9⟩ := hDr.recrash hm8 hb8 hlt8 hk9 (by simpa using (hbx.set_ 1 (.map (some wr.heap.size))).set_ 3 (.slice none 0 0))
      have hK9' := hKr.trans hK9 (fun k _ e => e)
      have hC9 := hC8.keptB hk9 (by omega)
      have hs8 := hb8.size
      have hsr := hKr.size
      have hd8 : d < w8.heap.size := hbx.lt
      replace hD9 := Lib.hid hD9
      replace hK9' := Lib.hid hK9'
      replace hC9 := Lib.hid hC9
      clear hk9 hK9 hC8 hbx hb8 hm8 hcl b2
      go_wp2_with fail
      generalize hw9 : (w8.setCell ⟨d, 1, none⟩ (.map (some wr.heap.size))).setCell ⟨d, 3, none⟩ (.slice none 0 0) = w9 at *
      have hs9 : w9.heap.size = w8.heap.size := by rw [← hw9]; simp
      clear hw9 g1 g3 b1 b3
      have hls := List_any hD9.out (by show l.length < _; omega)
      replace hls := Lib.hid hls
      refine hls.out.mono ?_
      rintro e w10 ⟨v, rfl, hrow, hb10⟩
      have hs10 := hb10.size
      have hCA : CAt w w10 F d w.heap.size #[.int .i64 c.names, .slice KA c.keep.length kc, .slice PA c.spoil.length pc] s l (crashGo c l s.files 0) c v 0 0 :=
        ⟨⟨s.files, _, (hD9.out.below hb10).more (fun k hk => hk.elim .inl fun e => .inr ⟨by omega, by omega⟩), ok.file, hl24.out, rfl⟩, hK9'.out.then_below hb10, hrow, hC9.out.below hb10 hC9.out.lt, Nat.zero_le _, Nat.le_refl _⟩
      obtain ⟨A9, c9, hv⟩ : ∃ A c, v = .slice A l.length c := by
        rcases hrow.2 with ⟨e, h0⟩ | ⟨g, cap, cur, e, _⟩
        · have h0' : l.length = 0 := h0
          exact ⟨none, 0, by rw [e, h0']⟩
        · exact ⟨_, cap, e⟩
      have hv' := Lib.hid hv
      subst hv
      replace hCA := Lib.hid hCA
      clear hrow hb10 hls
      go_wp2_with fail
      go_loopw [6, 55] (fun kv iv wq => ∃ (j kk : Nat), iv = .int .i64 j ∧ kv = .int .i64 kk ∧ CAt w wq F d w.heap.size #[.int .i64 c.names, .slice KA c.keep.length kc, .slice PA c.spoil.length pc] s l (crashGo c l s.files 0) c (.slice A9 l.length c9) j kk) (fun _ iv _ => l.length - (intOf iv).toNat)
      case atStart => exact ⟨0, 0, rfl, rfl, hCA.out⟩
      case round =>
        obtain ⟨j, kk, rfl, rfl, hQ⟩ := hrel
        have hjl := hQ.le
        by_cases hjn : j < l.length
        · have hjn' : (j : Int) < (l.length : Int) := by omega
          obtain ⟨nm, fi, f, fs, L', g, cp, hlj, hDq, hfi, hfs, hlf, hgo, hvv, hcell, h24, hgq, hk1, hk2, bi, oi, hlk⟩ := hQ.round hjn
          obtain ⟨A2, c2, hrw⟩ := oi.form
          have b1 := hDq.box.cell 1
          have hdq := hDq.lt
          have r0 := bi.cell 0
          have r1 := bi.cell 1
          rw [hrw] at r0
          have hbl := bi.lt
          simp only [Value.slice.injEq, true_and] at hvv
          obtain ⟨hv1, hv2⟩ := hvv
          subst hv1 hv2
          replace hlj := Lib.hid hlj
          replace hDq := Lib.hid hDq
          replace hfi := Lib.hid hfi
          replace hfs := Lib.hid hfs
          replace hlf := Lib.hid hlf
          replace hgo := Lib.hid hgo
          replace hQ := Lib.hid hQ
          replace hrw := Lib.hid hrw
          go_wp2_with fail
          by_cases hkl : f.k < f.d.length
          · have hkl' : (f.k : Int) < (f.d.length : Int) := by omega
            have hxc := @Ext.cell
            have hxf := @Ext.frozen
            refine wp_hide (fun Q0 hQ0 => ?_)
            refine wp_region_line (fun w' => ∃ x : Ext _, w' = x.w) [some false, some false, some false, some false, some false, some false, some false, some false, some false, some false] 0 (by kernel_rfl) (by kernel_rfl) ⟨⟨_, (Below.refl _ _).drew⟩, rfl⟩ ?_
            simp only [earlyL, tailL]
            repeat (first | ((with_reducible refine wpMix_p ?_); go_big_quiet_step (fail); refine wpQuiet_nil ?_) | ((with_reducible refine wpMix_e ?_); go_big_quiet_step ((first | fail)); refine wpQuiet_nil ?_))
            refine wpMix_nil ?_
            clear hxc hxf
            intro wx hwx
            obtain ⟨x, hx⟩ := hwx
            have hb := x.below
            rw [← hx] at hb
            clear hx x
            refine wpTail_nil ?_
            refine hQ0 _ _ ?_
            clear hQ0 Q0
            have hQx := hQ.out.below hb
            have hDx := (hDq.out.below hb).more fun k hk => Fx.mono hb.size hk
            have hdlx := hDx.live.1 _ (List.mem_of_getElem? hlj.out)
            obtain ⟨bx, ox⟩ := hDx.file fi f hfi.out hdlx
            obtain ⟨g2, cp2, hr2, hcp1, hcp2⟩ := row_form ox (by omega)
            have bx' := bx
            rw [hr2] at bx' ox
            have hx0 := hQx.box.cell 0
            have hx1 := hQx.box.cell 1
            have hx2 := hQx.box.cell 2
            have hbF := (hDx.inF.2.2.2.2 fi (List.getElem?_eq_some_iff.1 hfi.out).1 hdlx)
            have hcall := fcrash_any bx' ox hkl hk2 c KA PA kc pc (hc.kept hQx.kept hA) ⟨hcp1, hcp2⟩ kk (by omega) (fun ad hne e => by
              have a1 := hA ad (.inr ⟨hne, e⟩)
              have a2 : ad.block < w.heap.size := by
                obtain ⟨ad', e', h', _⟩ := hc.spoil.2 (by cases hcs : c.spoil with | nil => exact absurd hcs hne | cons _ _ => simp)
                rw [e] at e'
                injection e' with e'
                rw [e']
                exact h'
              refine ⟨?_, ?_⟩
              · rintro e2
                rcases hbF.1 with e3 | e3
                · exact a1 (e2 ▸ e3)
                · omega
              · rintro e2
                rcases hbF.2 g2 (by rw [hr2]; rfl) with e3 | e3
                · exact a1 (e2 ▸ e3)
                · omega)
            unfold craV at hcall
            replace hcall := Lib.hid hcall
            replace bx := Lib.hid bx
            replace bx' := Lib.hid bx'
            replace ox := Lib.hid ox
            replace hr2 := Lib.hid hr2
            replace hDx := Lib.hid hDx
            replace hQx := Lib.hid hQx
            clear r0 r1 hcell hlk b1 hbF hb
            go_wp2_with fail
            refine hcall.out.mono ?_
            rintro e w7 hFC
            have hnext := hQx.out.crashed hlj.out hDx.out hfi.out hfs.out hlf.out hgo.out hkl hr2.out hFC
            obtain ⟨rfl, hb7, _, _⟩ := hFC
            obtain ⟨q, hq⟩ : ∃ q, q = f.k + keepN c kk (f.d.length - f.k) := ⟨_, rfl⟩
            rw [← hq] at hnext hb7
            have r0 := hb7.cell 0
            have r1 := hb7.cell 1
            have rf := hb7.frozen 1
            replace hq := Lib.hid hq
            replace hnext := Lib.hid hnext
            replace hb7 := Lib.hid hb7
            go_wp2_with fail
            go_roundw
            case rel => exact ⟨j + 1, kk + 1, by rfl, by rfl, hnext.out⟩
            case measure => first | omega | (simp only [intOf]; omega)
          · have hkl' : ¬ (f.k : Int) < (f.d.length : Int) := by omega
            have hnext := fun wx hb => (hQ.out.skip hlj.out hDq.out hfi.out hfs.out hlf.out hgo.out hkl).below (wx := wx) hb
            replace hnext := Lib.hid hnext
            have hxc := @Ext.cell
            have hxf := @Ext.frozen
            refine wp_hide (fun Q0 hQ0 => ?_)
            refine wp_region_line (fun w' => ∃ x : Ext _, w' = x.w) [some false, some false, some false, some false, some false, some false, some false, some false, some false, some false] 0 (by kernel_rfl) (by kernel_rfl) ⟨⟨_, (Below.refl _ _).drew⟩, rfl⟩ ?_
            simp only [earlyL, tailL]
            repeat (first | ((with_reducible refine wpMix_p ?_); go_big_quiet_step (fail); refine wpQuiet_nil ?_) | ((with_reducible refine wpMix_e ?_); go_big_quiet_step ((first | fail)); refine wpQuiet_nil ?_))
            refine wpMix_nil ?_
            clear hxc hxf
            intro wx hwx
            obtain ⟨x, hx⟩ := hwx
            have hb := x.below
            rw [← hx] at hb
            clear hx x
            refine wpTail_nil ?_
            refine hQ0 _ _ ?_
            clear hQ0 Q0
            have hnext := hnext.out wx hb
            replace hnext := Lib.hid hnext
            clear r0 r1 hcell hlk b1 hb
            go_wp2_with fail
            go_roundw
            case rel => exact ⟨j + 1, kk, by rfl, by rfl, hnext.out⟩
            case measure => first | omega | (simp only [intOf]; omega)
        · obtain rfl : j = l.length := by omega
          have hfin := hQ.done
          replace hfin := Lib.hid hfin
          replace hQ := Lib.hid hQ
          have hjn' : ¬ (l.length : Int) < (l.length : Int) := by omega
          go_wp2_with fail
          go_end0
          exact ⟨rfl, hfin.out⟩
end Go.Proofs.Ytkhicfoikkllmaa
