/- DiskFuse: the walk. -/
import Derived.Test.YtkhicfoikkllmaaDFuW
namespace Go.Proofs.Ytkhicfoikkllmaa
open Go.RowKit
set_option linter.unusedVariables false
set_option linter.unusedSimpArgs false
theorem ActsAt.cells {B : Nat} {w : World} {b o : Nat} {l : List MAct} (h : ActsAt B w (some ⟨b, o, none⟩) l) {k : Nat} {m : MAct} (hk : l[k]? = some m) : b < B ∧ w.cell? ⟨b, o + k * 7, none⟩ = some (.int .u8 (m.x.c : Nat)) ∧ w.cell? ⟨b, o + k * 7 + 1, none⟩ = some (.string m.x.a) ∧
    w.cell? ⟨b, o + k * 7 + 2, none⟩ = some (.string m.x.b) ∧ w.cell? ⟨b, o + k * 7 + 3, none⟩ = some (.int .i64 m.x.n) ∧ w.cell? ⟨b, o + k * 7 + 4, none⟩ = some (.int .i64 m.x.cr.names) ∧
    w.cell? ⟨b, o + k * 7 + 5, none⟩ = some (.slice m.KA m.x.cr.keep.length m.kc) ∧ w.cell? ⟨b, o + k * 7 + 6, none⟩ = some (.slice m.PA m.x.cr.spoil.length m.pc) := by
  obtain ⟨b', o', e, h⟩ := h.at_ hk
  injection e with e
  injection e with e1 e2
  subst e1 e2
  exact h
set_option maxRecDepth 100000 in
set_option maxHeartbeats 8000000 in
theorem Fuses_any (w : World) (room : Int) (A : Option Addr) (l : List MAct) (cap : Nat) (fz : Nat) (hfz : fz < 256) (hl : ActsAt w.heap.size w A l) (hll : l.length ≤ maxLen) :
    Calls Try.prog 6 #[.int .i64 room, .slice A l.length cap, .int .u8 (fz : Nat)] w fun e w' => e = .returned (.bool true) ∧ Below w.heap.size w w' := by
  have hgl := Great_any _ A l cap hl (Nat.le_refl _) hll
  have hawk := awake_any
  obtain ⟨n, hn⟩ : ∃ n : Nat, n = 1 + fz % 60 := ⟨_, rfl⟩
  have hn1 : (1 : Int) + (fz : Int) % 60 = n := by omega
  have hnp : 0 < n := by omega
  have hn61 : n ≤ 60 := by omega
  replace hgl := Lib.hid hgl
  replace hawk := Lib.hid hawk
  replace hl := Lib.hid hl
  replace hn := Lib.hid hn
  go_enter Try.func6, Try.ntmps6
  go_wp2_with fail
  refine hgl.out.mono ?_
  rintro e w2 ⟨r, rfl, hr, hb2⟩
  have hz2 := hb2.size
  cases r with
  | true =>
    replace hb2 := Lib.hid hb2
    go_wp2_with fail
    refine (hawk.out _).mono ?_
    rintro e wz ⟨rfl, hbz⟩
    have hfin := hb2.out.trans (hbz.mono hb2.out.size)
    replace hfin := Lib.hid hfin
    clear hbz
    go_wp2_with fail
    go_ret
    exact ⟨rfl, hfin.out⟩
  | false =>
  obtain ⟨hl120, hls⟩ := hr rfl
  replace hls := Lib.hid hls
  replace hb2 := Lib.hid hb2
  clear hr hgl
  have hnew := fun W => New_dw room W
  replace hnew := Lib.hid hnew
  go_wp2_with fail
  refine (hnew.out _).mono ?_
  rintro e w3 ⟨a, rfl, h3, b3⟩
  go_wp2_with fail
  refine (hnew.out _).mono ?_
  rintro e w4 ⟨b, rfl, h4, b4⟩
  have hT4 := two_new h3 h4 b4
  have hz4 := h4.size
  have hz3 := h3.size
  have hB4 := b3.trans (b4.mono hz3)
  have hfu := hT4.fuse (by omega) n
  replace hfu := Lib.hid hfu
  replace hT4 := Lib.hid hT4
  replace hB4 := Lib.hid hB4
  clear h3 h4 b3 b4
  go_wp2_with fail
  refine hfu.out.mono ?_
  rintro e w5 ⟨rfl, hT5, hb5⟩
  have hB5 := hB4.out.trans hb5
  replace hT5 := Lib.hid hT5
  replace hB5 := Lib.hid hB5
  clear hb5
  go_wp2_with fail
  have hz5 := hT5.out
  have h2w : w.heap.size ≤ w2.heap.size := hz2
  clear hz5
  go_loopw [10, 11] (fun dv iv wr => ∃ (i j : Nat) (sb : Dsk), i ≤ l.length ∧ j < n ∧ dv = .int .i64 (j : Nat) ∧ iv = .int .i64 (i : Nat) ∧ sb.off = false ∧ sb.fuse = 0 ∧ sb.Good i ∧ Two w2.heap.size wr a b (sb.fused (n - j)) sb ∧ Below w2.heap.size w2 wr) (fun _ iv _ => l.length - (intOf iv).toNat)
  case atStart => exact ⟨0, 0, Dsk.new room, Nat.zero_le _, hnp, rfl, rfl, rfl, rfl, .new room, hT5.out, hB5.out⟩
  case round =>
    obtain ⟨i, j, sb, hi, hj, rfl, rfl, ho, hf, g, hT, hbr⟩ := hrel
    have hBr := hb2.out.trans (hbr.mono h2w)
    have hzr := hbr.size
    by_cases hlt : i < l.length
    · have hlt' : (i : Int) < l.length := by omega
      have hkm : l[i]? = some l[i] := List.getElem?_eq_getElem hlt
      have hmem := List.getElem_mem hlt
      have hok := fun (W : World) (hW : Below w.heap.size w W) => (hl.out.below hW (Nat.le_refl _)).ok _ hmem
      have hsm := hls.out _ hmem
      obtain ⟨bl, o, rfl, hbB, _⟩ := (hl.out.below hBr (Nat.le_refl _)).at_ hkm
      have hat := fun (W : World) (hW : Below w.heap.size w W) => (hl.out.below hW (Nat.le_refl _)).cells hkm
      obtain ⟨_, q0, _⟩ := hat wr hBr
      generalize l[i] = mm at *
      have hdn := hT.down
      rw [show (sb.fused (n - j)).off = false from ho] at hdn
      have hblr : bl < wr.heap.size := by omega
      replace hdn := Lib.hid hdn
      replace hat := Lib.hid hat
      replace hok := Lib.hid hok
      replace hkm := Lib.hid hkm
      replace hmem := Lib.hid hmem
      replace hT := Lib.hid hT
      replace g := Lib.hid g
      replace ho := Lib.hid ho
      replace hf := Lib.hid hf
      replace hsm := Lib.hid hsm
      replace hBr := Lib.hid hBr
      replace hbr := Lib.hid hbr
      go_wp2_with fail
      refine hdn.out.mono ?_
      rintro e w' ⟨rfl, rfl⟩
      by_cases h68 : 6 ≤ mm.x.c ∧ mm.x.c ≤ 8
      · have h6 : (6 : Int) ≤ mm.x.c := by omega
        have h8 : (mm.x.c : Int) ≤ 8 := by omega
        go_wp2_with fail
        exact ⟨⟨i + 1, j, sb, by omega, hj, rfl, rfl, ho.out, hf.out, g.out.more (by omega), hT.out, hbr.out⟩, by first | omega | (simp only [intOf]; omega)⟩
      · have hstep := act_step ho.out hf.out (show 0 < n - j by omega) mm.x h68
        replace hstep := Lib.hid hstep
        by_cases hc6 : mm.x.c < 6
        · have h6 : ¬ (6 : Int) ≤ mm.x.c := by omega
          have h6' : (mm.x.c : Int) < 6 := by omega
          go_wp2_with fail
          have htw := hT.out.twin hzr g.out (by omega)
          replace htw := Lib.hid htw
          refine htw.out.mono ?_
          rintro e w6 ⟨t, rfl, hT6, hb6⟩
          have hB6 := hBr.out.trans (hb6.mono h2w)
          have hz6 : w2.heap.size ≤ w6.heap.size := by have := hb6.size; omega
          obtain ⟨_, p0, p1, p2, p3, p4, p5, p6⟩ := hat.out w6 hB6
          have hda := hT6.doesA hz6 (g.out.fused (k := n - j) (by omega)) (by omega) mm (hok.out w6 hB6) (by omega) hsm.out
          unfold mactV at hda
          have hbl6 : bl < w6.heap.size := by omega
          replace hda := Lib.hid hda
          replace hT6 := Lib.hid hT6
          replace hB6 := Lib.hid hB6
          clear q0
          go_wp2_with fail
          refine hda.out.mono ?_
          rintro e w7 ⟨rfl, hT7, hb7⟩
          have hB7 := hB6.out.trans (hb7.mono h2w)
          have hz7 : w2.heap.size ≤ w7.heap.size := by have := hb7.size; omega
          clear p0 p1 p2 p3 p4 p5 p6
          obtain ⟨_, p0, p1, p2, p3, p4, p5, p6⟩ := hat.out w7 hB7
          have hdb := hT7.doesB hz7 g.out (by omega) mm (hok.out w7 hB7) (by omega) hsm.out
          unfold mactV at hdb
          have hbl7 : bl < w7.heap.size := by omega
          have gn := g.out.act mm.x (hok.out w7 hB7).n
          replace hdb := Lib.hid hdb
          replace hT7 := Lib.hid hT7
          replace hB7 := Lib.hid hB7
          generalize hra : (sb.fused (n - j)).act mm.x = ra at *
          generalize hrb : sb.act mm.x = rb at *
          replace hra := Lib.hid hra
          replace hrb := Lib.hid hrb
          obtain ⟨sa', ta, ea⟩ := ra
          obtain ⟨sb', tb, eb⟩ := rb
          replace gn := Lib.hid gn
          try dsimp only at hdb
          go_wp2_with fail
          refine hdb.out.mono ?_
          rintro e w8 ⟨rfl, hT8, hb8⟩
          have hB8 := hB7.out.trans (hb8.mono h2w)
          have hz8 : w2.heap.size ≤ w8.heap.size := by have := hb8.size; omega
          have hbr8 := ((hbr.out.trans hb6).trans hb7).trans hb8
          clear p0 p1 p2 p3 p4 p5 p6
          obtain ⟨_, p0, _⟩ := hat.out w8 hB8
          have hbl8 : bl < w8.heap.size := by omega
          clear hdn htw hda hdb hT6 hT7 hb6 hb7 hb8 hB6 hB7
          obtain ⟨so, sf, sor⟩ := hstep.out
          rw [hra.out, hrb.out] at sor
          rw [hrb.out] at so sf
          try dsimp only at so sf sor hT8
          replace gn := gn.out
          try dsimp only at gn
          replace so := Lib.hid so
          replace sf := Lib.hid sf
          replace sor := Lib.hid sor
          replace hT8 := Lib.hid hT8
          replace hB8 := Lib.hid hB8
          replace hbr8 := Lib.hid hbr8
          replace gn := Lib.hid gn
          rcases sor.out with ⟨hne, hra2⟩ | ⟨_, he0, ⟨hk1, hea, hoff, g', hst⟩ | ⟨hk1, hra2⟩⟩
          · have hez : ¬ ((eb : Nat) : Int) = 0 := fun e => hne ⟨hc6, by show eb = 0; omega⟩
            injection hra2 with e1 e2
            injection e2 with e2 e3
            subst e1 e2 e3
            have hkk : (n : Int) - (j : Int) = ((n - j : Nat) : Int) := by omega
            have hdn2 := hT8.out.two.down
            have e1 : ∀ q, (sb'.fused q).off = false := fun _ => so.out
            rw [e1] at hdn2
            clear e1
            have hfd := hT8.out.two.fused
            have e0 : ∀ q, (sb'.fused q).fuse = q := fun _ => rfl
            rw [e0] at hfd
            replace hdn2 := Lib.hid hdn2
            replace hfd := Lib.hid hfd
            clear e0
            go_wp2_with fail
            refine hdn2.out.mono ?_
            rintro e w' ⟨rfl, rfl⟩
            go_wp2_with fail
            refine hfd.out.mono ?_
            rintro e w' ⟨rfl, rfl⟩
            go_wp2_with fail
            exact ⟨⟨i + 1, j, sb', by omega, hj, rfl, rfl, so.out, sf.out, gn.out, hT8.out.two, hbr8.out⟩, by first | omega | (simp only [intOf]; omega)⟩
          · have hea' : ea = 7 := hea
            have heb' : eb = 0 := he0
            have hoff' : sa'.off = true := hoff
            subst hea' heb'
            have hjn : (j : Int) + 1 = n := by omega
            have hdn2 := hT8.out.two.down
            rw [hoff'] at hdn2
            have hst2 := hT8.out.start hz8
            replace hdn2 := Lib.hid hdn2
            replace hst2 := Lib.hid hst2
            replace hst := Lib.hid hst
            go_wp2_with fail
            refine hdn2.out.mono ?_
            rintro e w' ⟨rfl, rfl⟩
            go_wp2_with fail
            refine hst2.out.mono ?_
            rintro e w9 ⟨rfl, hT9, hb9⟩
            have hz9 : w2.heap.size ≤ w9.heap.size := by have := hb9.size; omega
            have hsa := hT9.same hz9 hst.out g.out (by omega)
            have hB9 := hB8.out.trans (hb9.mono h2w)
            replace hsa := Lib.hid hsa
            replace hT9 := Lib.hid hT9
            replace hB9 := Lib.hid hB9
            clear hb9
            go_wp2_with fail
            refine hsa.out.mono ?_
            rintro e w10 ⟨rfl, hb10⟩
            have hB10 := hB9.out.trans (hb10.mono h2w)
            replace hB10 := Lib.hid hB10
            clear hb10
            go_wp2_with fail
            refine (hawk.out _).mono ?_
            rintro e wz ⟨rfl, hbz⟩
            have hfin := hB10.out.trans (hbz.mono hB10.out.size)
            replace hfin := Lib.hid hfin
            clear hbz
            go_wp2_with fail
            go_ret
            exact ⟨rfl, hfin.out⟩
          · have heb' : eb = 0 := he0
            subst heb'
            injection hra2 with e1 e2
            injection e2 with e2 e3
            subst e1 e2 e3
            have hj1 : j + 1 < n := by omega
            have hkk : (n : Int) - ((j : Int) + 1) = ((n - j - 1 : Nat) : Int) := by omega
            have hdn2 := hT8.out.two.down
            have e1 : ∀ q, (sb'.fused q).off = false := fun _ => so.out
            rw [e1] at hdn2
            clear e1
            have hfd := hT8.out.two.fused
            have e0 : ∀ q, (sb'.fused q).fuse = q := fun _ => rfl
            rw [e0] at hfd
            replace hdn2 := Lib.hid hdn2
            replace hfd := Lib.hid hfd
            clear e0
            go_wp2_with fail
            refine hdn2.out.mono ?_
            rintro e w' ⟨rfl, rfl⟩
            go_wp2_with fail
            refine hfd.out.mono ?_
            rintro e w' ⟨rfl, rfl⟩
            go_wp2_with fail
            exact ⟨⟨i + 1, (j + 1), sb', by omega, hj1, rfl, rfl, so.out, sf.out, gn.out, hT8.out.two, hbr8.out⟩, by first | omega | (simp only [intOf]; omega)⟩
        · have h6 : (6 : Int) ≤ mm.x.c := by omega
          have h6' : ¬ (mm.x.c : Int) < 6 := by omega
          have h8 : ¬ (mm.x.c : Int) ≤ 8 := by omega
          go_wp2_with fail
          have htw := hT.out.twin hzr g.out (by omega)
          replace htw := Lib.hid htw
          refine htw.out.mono ?_
          rintro e w6 ⟨t, rfl, hT6, hb6⟩
          have hB6 := hBr.out.trans (hb6.mono h2w)
          have hz6 : w2.heap.size ≤ w6.heap.size := by have := hb6.size; omega
          obtain ⟨_, p0, p1, p2, p3, p4, p5, p6⟩ := hat.out w6 hB6
          have hda := hT6.doesA hz6 (g.out.fused (k := n - j) (by omega)) (by omega) mm (hok.out w6 hB6) (by omega) hsm.out
          unfold mactV at hda
          have hbl6 : bl < w6.heap.size := by omega
          replace hda := Lib.hid hda
          replace hT6 := Lib.hid hT6
          replace hB6 := Lib.hid hB6
          clear q0
          go_wp2_with fail
          refine hda.out.mono ?_
          rintro e w7 ⟨rfl, hT7, hb7⟩
          have hB7 := hB6.out.trans (hb7.mono h2w)
          have hz7 : w2.heap.size ≤ w7.heap.size := by have := hb7.size; omega
          clear p0 p1 p2 p3 p4 p5 p6
          obtain ⟨_, p0, p1, p2, p3, p4, p5, p6⟩ := hat.out w7 hB7
          have hdb := hT7.doesB hz7 g.out (by omega) mm (hok.out w7 hB7) (by omega) hsm.out
          unfold mactV at hdb
          have hbl7 : bl < w7.heap.size := by omega
          have gn := g.out.act mm.x (hok.out w7 hB7).n
          replace hdb := Lib.hid hdb
          replace hT7 := Lib.hid hT7
          replace hB7 := Lib.hid hB7
          generalize hra : (sb.fused (n - j)).act mm.x = ra at *
          generalize hrb : sb.act mm.x = rb at *
          replace hra := Lib.hid hra
          replace hrb := Lib.hid hrb
          obtain ⟨sa', ta, ea⟩ := ra
          obtain ⟨sb', tb, eb⟩ := rb
          replace gn := Lib.hid gn
          try dsimp only at hdb
          go_wp2_with fail
          refine hdb.out.mono ?_
          rintro e w8 ⟨rfl, hT8, hb8⟩
          have hB8 := hB7.out.trans (hb8.mono h2w)
          have hz8 : w2.heap.size ≤ w8.heap.size := by have := hb8.size; omega
          have hbr8 := ((hbr.out.trans hb6).trans hb7).trans hb8
          clear p0 p1 p2 p3 p4 p5 p6
          obtain ⟨_, p0, _⟩ := hat.out w8 hB8
          have hbl8 : bl < w8.heap.size := by omega
          clear hdn htw hda hdb hT6 hT7 hb6 hb7 hb8 hB6 hB7
          obtain ⟨so, sf, sor⟩ := hstep.out
          rw [hra.out, hrb.out] at sor
          rw [hrb.out] at so sf
          try dsimp only at so sf sor hT8
          replace gn := gn.out
          try dsimp only at gn
          replace so := Lib.hid so
          replace sf := Lib.hid sf
          replace sor := Lib.hid sor
          replace hT8 := Lib.hid hT8
          replace hB8 := Lib.hid hB8
          replace hbr8 := Lib.hid hbr8
          replace gn := Lib.hid gn
          rcases sor.out with ⟨hne, hra2⟩ | ⟨h, _⟩
          · injection hra2 with e1 e2
            injection e2 with e2 e3
            subst e1 e2 e3
            have hkk : (n : Int) - (j : Int) = ((n - j : Nat) : Int) := by omega
            by_cases he0 : ea = 0
            · subst he0
              have hdn2 := hT8.out.two.down
              have e1 : ∀ q, (sb'.fused q).off = false := fun _ => so.out
              rw [e1] at hdn2
              clear e1
              have hfd := hT8.out.two.fused
              have e0 : ∀ q, (sb'.fused q).fuse = q := fun _ => rfl
              rw [e0] at hfd
              replace hdn2 := Lib.hid hdn2
              replace hfd := Lib.hid hfd
              clear e0
              go_wp2_with fail
              refine hdn2.out.mono ?_
              rintro e w' ⟨rfl, rfl⟩
              go_wp2_with fail
              refine hfd.out.mono ?_
              rintro e w' ⟨rfl, rfl⟩
              go_wp2_with fail
              exact ⟨⟨i + 1, j, sb', by omega, hj, rfl, rfl, so.out, sf.out, gn.out, hT8.out.two, hbr8.out⟩, by first | omega | (simp only [intOf]; omega)⟩
            · have hez : ¬ ((ea : Nat) : Int) = 0 := by omega
              have hdn2 := hT8.out.two.down
              have e1 : ∀ q, (sb'.fused q).off = false := fun _ => so.out
              rw [e1] at hdn2
              clear e1
              have hfd := hT8.out.two.fused
              have e0 : ∀ q, (sb'.fused q).fuse = q := fun _ => rfl
              rw [e0] at hfd
              replace hdn2 := Lib.hid hdn2
              replace hfd := Lib.hid hfd
              clear e0
              go_wp2_with fail
              refine hdn2.out.mono ?_
              rintro e w' ⟨rfl, rfl⟩
              go_wp2_with fail
              refine hfd.out.mono ?_
              rintro e w' ⟨rfl, rfl⟩
              go_wp2_with fail
              exact ⟨⟨i + 1, j, sb', by omega, hj, rfl, rfl, so.out, sf.out, gn.out, hT8.out.two, hbr8.out⟩, by first | omega | (simp only [intOf]; omega)⟩
          · exact absurd h hc6
    · obtain rfl : i = l.length := by omega
      have hlt' : ¬ (l.length : Int) < l.length := by omega
      have hj' : (j : Int) < n := by omega
      replace hT := Lib.hid hT
      replace hBr := Lib.hid hBr
      go_wp2_with fail
      refine (hawk.out _).mono ?_
      rintro e wz ⟨rfl, hbz⟩
      have hfin := hBr.out.trans (hbz.mono hBr.out.size)
      replace hfin := Lib.hid hfin
      clear hbz
      go_wp2_with fail
      go_ret
      exact ⟨rfl, hfin.out⟩
end Go.Proofs.Ytkhicfoikkllmaa
