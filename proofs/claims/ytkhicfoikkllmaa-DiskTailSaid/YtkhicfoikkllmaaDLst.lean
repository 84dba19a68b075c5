/- DiskLasts: the walk. -/
import Derived.Test.YtkhicfoikkllmaaDPly
namespace Go.Proofs.Ytkhicfoikkllmaa
open Go.RowKit
set_option linter.unusedVariables false
set_option linter.unusedSimpArgs false
theorem Beside.dw {B : Nat} {w wr : World} {d : Nat} {s : Dsk} {v : Value} {l : List Nat} (h : Beside w wr (fun k => B ≤ k ∧ k < w.heap.size) d s v l) (hB : B ≤ w.heap.size) : Dw B wr d s ∧ Below B w wr := by
  obtain ⟨F', L', hD, hF, _⟩ := h.ex
  refine ⟨⟨L', hD.more fun k hk => ?_⟩, h.kept.below (fun k hk => hk.1) hB⟩
  obtain ⟨h1, h2⟩ := hF k hk
  exact ⟨h1.elim (fun e => e.1) (fun e => by omega), h2⟩
theorem plays_dw {B : Nat} {w : World} {d : Nat} {s : Dsk} {m C : Nat} (h : Dw B w d s) (g : s.Good m) (hm : m ≤ 500000000) (A : Option Addr) (l : List MAct) (cap : Nat) (hl : ActsAt C w A l) (hC : C ≤ B) (hn : l.length ≤ 120) (hs : ∀ m ∈ l, MSmall m) :
    Calls Try.prog 12 #[.pointer (some ⟨d, 0, none⟩), .slice A l.length cap] w fun e w' => ∃ v, e = .returned v ∧ Dw B w' d (s.acts (acts l)) ∧ Below B w w' := by
  have hB := h.size
  obtain ⟨L, hL⟩ := h
  refine (plays_any hL g hm A l cap hl (by omega) (fun k hk => ⟨by omega, hk.2⟩) hn hs).mono ?_
  rintro e w' ⟨v, he, hb⟩
  exact ⟨v, he, hb.dw hB⟩
/-- Behind what was played: on, no fuse; the name is there, or not. -/
theorem lasts_begin {s : Dsk} {m : Nat} (g : s.Good m) (n : Nm) :
    (((s.start.setFuse 0).sync n).2 = 4 ∧ ((s.start.setFuse 0).sync n).1.dirsync.2 = 0) ∨
    (∃ f d, n ≠ [] ∧ Held ((s.start.setFuse 0).sync n).1.dirsync.1 n f d ∧ ((s.start.setFuse 0).sync n).2 = 0 ∧ ((s.start.setFuse 0).sync n).1.dirsync.2 = 0 ∧ ((s.start.setFuse 0).sync n).1.dirsync.1.read n = (d, 0)) := by
  have ho : (s.start.setFuse 0).off = false := rfl
  have hf : (s.start.setFuse 0).fuse = 0 := rfl
  have g1 : (s.start.setFuse 0).Good m := g.start.setFuse (by omega)
  cases hg : getM n (s.start.setFuse 0).names with
  | none =>
    left
    have hs : (s.start.setFuse 0).sync n = (s.start.setFuse 0, 4) := by
      unfold Dsk.sync
      rw [if_neg (by rw [ho]; decide), hg]
    rw [hs]
    refine ⟨rfl, ?_⟩
    have hb : (s.start.setFuse 0).burn = s.start.setFuse 0 := Dsk.burn_zero (by omega)
    unfold Dsk.dirsync
    rw [if_neg (by rw [ho]; decide), hb, if_neg (by rw [ho]; decide)]
  | some i =>
    right
    obtain ⟨f, d, h1, h2, h3, h4⟩ := held_begin g1.dir ho hf hg g1.ok
    exact ⟨f, d, g1.dir.cur.2 _ (getM_mem hg), h1, h2, h3, h4⟩
theorem bytes_ne {a b : ByteArray} (h : a ≠ b) : a.data.toList ≠ b.data.toList := fun e => h (by rw [← bs_of a, ← bs_of b, e])
set_option maxRecDepth 100000 in
set_option maxHeartbeats 8000000 in
theorem Lasts_any (w : World) (room : Int) (A1 A2 : Option Addr) (l m : List MAct) (c1 c2 : Nat) (name : ByteArray) (c : Cra) (KA PA : Option Addr) (kc pc : Nat) (hl : ActsAt w.heap.size w A1 l) (hm : ActsAt w.heap.size w A2 m) (hc : CraR w.heap.size w c KA PA) (hll : l.length ≤ maxLen) (hml : m.length ≤ maxLen) (hnm : name.size ≤ maxLen) :
    Calls Try.prog 3 #[.int .i64 room, .slice A1 l.length c1, .slice A2 m.length c2, .string name, craV c KA kc PA pc] w fun e w' => e = .returned (.bool true) ∧ Below w.heap.size w w' := by
  have hal : Below w.heap.size w (w.alloc (.cells #[.int .i64 c.names, .slice KA c.keep.length kc, .slice PA c.spoil.length pc] 26)) := (Below.refl _ _).alloc (Nat.le_refl _) _
  have hC1 : Blk (w.alloc (.cells #[.int .i64 c.names, .slice KA c.keep.length kc, .slice PA c.spoil.length pc] 26)) w.heap.size 26 #[.int .i64 c.names, .slice KA c.keep.length kc, .slice PA c.spoil.length pc] := Blk.new _ _ _
  have hl1 := hl.below hal (Nat.le_refl _)
  have hm1 := hm.below hal (Nat.le_refl _)
  have hc1 := hc.below hal (Nat.le_refl _)
  have hgl := Great_any _ A1 l c1 hl1 hal.size hll
  have hawk := awake_any
  have hgc := fun (W : World) => GreatCrash_any W c KA PA kc pc
  have hzW : (w.alloc (.cells #[.int .i64 c.names, .slice KA c.keep.length kc, .slice PA c.spoil.length pc] 26)).heap.size = w.heap.size + 1 := by simp
  unfold craV at hgc ⊢
  replace hgl := Lib.hid hgl
  replace hgc := Lib.hid hgc
  replace hawk := Lib.hid hawk
  replace hl := Lib.hid hl
  replace hm := Lib.hid hm
  replace hc := Lib.hid hc
  replace hl1 := Lib.hid hl1
  replace hm1 := Lib.hid hm1
  replace hc1 := Lib.hid hc1
  replace hal := Lib.hid hal
  replace hC1 := Lib.hid hC1
  replace hzW := Lib.hid hzW
  unfold maxLen at hnm
  go_enter Try.func3, Try.ntmps3
  go_wp2_with fail
  generalize hW : w.alloc (.cells #[.int .i64 c.names, .slice KA c.keep.length kc, .slice PA c.spoil.length pc] 26) = W1 at *
  clear hW
  have hzw := hzW.out
  refine hgl.out.mono ?_
  rintro e w2 ⟨r, rfl, hr, hb2⟩
  have hz2 := hb2.size
  cases r with
  | true =>
    replace hb2 := Lib.hid hb2
    go_wp2_with fail
    refine (hawk.out _).mono ?_
    rintro e w9 ⟨rfl, hb9⟩
    have hfin := hal.out.trans ((hb2.out.trans (hb9.mono hb2.out.size)).mono (by omega))
    replace hfin := Lib.hid hfin
    clear hb9
    go_wp2_with fail
    go_ret
    exact ⟨rfl, hfin.out⟩
  | false =>
  obtain ⟨hl120, hls⟩ := hr rfl
  have hgm := Great_any w2 A2 m c2 (hm1.out.below hb2 (by omega)) (by omega) hml
  replace hls := Lib.hid hls
  replace hgm := Lib.hid hgm
  replace hb2 := Lib.hid hb2
  clear hr hgl
  go_wp2_with fail
  refine hgm.out.mono ?_
  rintro e w3 ⟨r, rfl, hr, hb3⟩
  have hB3 := hb2.out.trans (hb3.mono hz2)
  have hz3 := hB3.size
  clear hb3
  cases r with
  | true =>
    replace hB3 := Lib.hid hB3
    go_wp2_with fail
    refine (hawk.out _).mono ?_
    rintro e w9 ⟨rfl, hb9⟩
    have hfin := hal.out.trans ((hB3.out.trans (hb9.mono hB3.out.size)).mono (by omega))
    replace hfin := Lib.hid hfin
    clear hb9
    go_wp2_with fail
    go_ret
    exact ⟨rfl, hfin.out⟩
  | false =>
  obtain ⟨hm120, hms⟩ := hr rfl
  have hC3 := hC1.out.below hB3 (by omega)
  have q0 := hC3.cell 0
  have q1 := hC3.cell 1
  have q2 := hC3.cell 2
  have hzc := hC3.lt
  replace hms := Lib.hid hms
  replace hB3 := Lib.hid hB3
  clear hr hgm
  go_wp2_with fail
  refine (hgc.out _).mono ?_
  rintro e w4 ⟨r, rfl, hr, hb4⟩
  have hB4 := hB3.out.trans (hb4.mono hz3)
  have hz4 := hB4.size
  clear hb4
  cases r with
  | true =>
    replace hB4 := Lib.hid hB4
    clear q0 q1 q2
    go_wp2_with fail
    refine (hawk.out _).mono ?_
    rintro e w9 ⟨rfl, hb9⟩
    have hfin := hal.out.trans ((hB4.out.trans (hb9.mono hB4.out.size)).mono (by omega))
    replace hfin := Lib.hid hfin
    clear hb9
    go_wp2_with fail
    go_ret
    exact ⟨rfl, hfin.out⟩
  | false =>
  obtain ⟨hck, hcp⟩ := hr rfl
  replace hB4 := Lib.hid hB4
  clear hr q0 q1 q2 hgc hC3
  by_cases hn100 : 100 < name.size
  · have hn100' : (100 : Int) < name.size := by omega
    go_wp2_with fail
    refine (hawk.out _).mono ?_
    rintro e w9 ⟨rfl, hb9⟩
    have hfin := hal.out.trans ((hB4.out.trans (hb9.mono hB4.out.size)).mono (by omega))
    replace hfin := Lib.hid hfin
    clear hb9
    go_wp2_with fail
    go_ret
    exact ⟨rfl, hfin.out⟩
  have hn100' : ¬ (100 : Int) < name.size := by omega
  have hnew := New_dw room w4
  replace hnew := Lib.hid hnew
  go_wp2_with fail
  refine hnew.out.mono ?_
  rintro e w5 ⟨d, rfl, h5, b5⟩
  have hpl := plays_dw h5 (.new room) (Nat.zero_le _) A1 l c1 ((hl1.out.below hB4.out (by omega)).below b5 (by omega)) (by omega) hl120 hls.out
  replace hpl := Lib.hid hpl
  go_wp2_with fail
  refine hpl.out.mono ?_
  rintro e w6 ⟨v, rfl, h6, b6⟩
  have g6 := Dsk.Good.acts (acts l) (.new room) (fun x hx => by
    unfold acts at hx
    obtain ⟨y, hy, rfl⟩ := List.mem_map.1 hx
    exact (hl.out.ok y hy).n)
  have hal' : (acts l).length = l.length := by unfold acts; simp
  rw [hal', Nat.zero_add] at g6
  generalize hsP : (Dsk.new room).acts (acts l) = sP at *
  clear hsP hal'
  have hst := Start_dw h6
  replace hst := Lib.hid hst
  replace b5 := Lib.hid b5
  go_wp2_with fail
  refine hst.out.mono ?_
  rintro e w7 ⟨rfl, h7, b7⟩
  have hfu := Fuse_dw h7 0
  replace hfu := Lib.hid hfu
  go_wp2_with fail
  refine hfu.out.mono ?_
  rintro e w8 ⟨rfl, h8, b8⟩
  have g8 : (sP.start.setFuse 0).Good l.length := g6.start.setFuse (by omega)
  have hsy := Sync_dw h8 g8 name (by omega)
  have hbeg := lasts_begin g6 name.data.toList
  have g9 := g8.sync name.data.toList
  have g10 := g9.dirsync
  generalize hs9 : (sP.start.setFuse 0).sync name.data.toList = r9 at *
  obtain ⟨s9, e9⟩ := r9
  simp only [] at hsy hbeg g9 g10
  replace hsy := Lib.hid hsy
  replace hs9 := Lib.hid hs9
  replace hbeg := Lib.hid hbeg
  go_wp2_with fail
  refine hsy.out.mono ?_
  rintro e w9 ⟨rfl, h9, b9⟩
  have hds := DirSync_dw h9 g9
  generalize hs10 : s9.dirsync = r10 at *
  obtain ⟨s10, e10⟩ := r10
  simp only [] at hds g10
  replace hbeg := hbeg.out
  simp only [] at hbeg
  replace hs10 := Lib.hid hs10
  replace hbeg := Lib.hid hbeg
  replace hds := Lib.hid hds
  go_wp2_with fail
  refine hds.out.mono ?_
  rintro e w10 ⟨rfl, h10, b10⟩
  have hz4' : w4.heap.size ≤ w10.heap.size := h10.size
  have hB10 := ((((b5.out.trans b6).trans b7).trans b8).trans b9).trans b10
  have hBA := hB4.out.trans (hB10.mono hz4)
  clear hB10 b6 b7 b8 b9 b10 h7 h8 h9 h6 h5
  have hC10 := hC1.out.below hBA (by omega)
  have hm10 := hm1.out.below hBA (by omega)
  have hc10 := hc1.out.below hBA (by omega)
  replace hBA := Lib.hid hBA
  rcases hbeg.out with ⟨rfl, rfl⟩ | ⟨f, dd, hne, hH, rfl, rfl, hrd⟩
  · clear hC10
    go_wp2_with fail
    refine (hawk.out _).mono ?_
    rintro e w9 ⟨rfl, hb9⟩
    have hfin := hal.out.trans ((hBA.out.trans (hb9.mono hBA.out.size)).mono (by omega))
    replace hfin := Lib.hid hfin
    clear hb9
    go_wp2_with fail
    go_ret
    exact ⟨rfl, hfin.out⟩
  · have hre := Read_dw h10 g10 name (by omega)
    rw [hrd] at hre
    simp only [] at hre
    replace hre := Lib.hid hre
    replace hC10 := Lib.hid hC10
    replace hm10 := Lib.hid hm10
    replace hc10 := Lib.hid hc10
    replace hH := Lib.hid hH
    replace hrd := Lib.hid hrd
    replace hne := Lib.hid hne
    go_wp2_with fail
    refine hre.out.mono ?_
    rintro e w' ⟨rfl, rfl⟩
    go_wp2_with fail
    go_loopw [16] (fun iv wr => ∃ (k : Nat) (s' : Dsk), k ≤ m.length ∧ iv = .int .i64 k ∧ Dw w4.heap.size wr d s' ∧ s'.Good (l.length + 1 + 1 + k) ∧ Held s' name.data.toList f dd ∧ Below w4.heap.size w10 wr) (fun iv _ => m.length - (intOf iv).toNat)
    case atStart => exact ⟨0, s10, Nat.zero_le _, rfl, h10, g10, hH.out, Below.refl _ _⟩
    case round =>
      obtain ⟨k, s', hk, rfl, hDk, gk, hHk, hbk⟩ := hrel
      by_cases hlt : k < m.length
      · have hlt' : (k : Int) < m.length := by omega
        have hkm : m[k]? = some m[k] := List.getElem?_eq_getElem hlt
        have hmem := List.getElem_mem hlt
        have hmr := hm10.out.below hbk (by omega)
        have hok := hmr.ok _ hmem
        have hsm := hms.out _ hmem
        obtain ⟨b, o, rfl, hbB, q0, q1, q2, q3, q4, q5, q6⟩ := hmr.at_ hkm
        generalize m[k] = mm at *
        have hcall := Does_any hDk gk (by omega) mm hok (by omega) hsm
        have hgn := gk.act mm.x hok.n
        have hbr := hbk.size
        unfold mactV at hcall
        have hstay : ∃ k' s'', k' ≤ m.length ∧ Value.int .i64 ((k : Int) + 1) = .int .i64 (k' : Nat) ∧ Dw w4.heap.size wr d s'' ∧ s''.Good (l.length + 1 + 1 + k') ∧ Held s'' name.data.toList f dd ∧ Below w4.heap.size w10 wr :=
          ⟨k + 1, s', by omega, rfl, hDk, gk.more (by omega), hHk, hbk⟩
        clear hmr hok hsm hmem
        replace hstay := Lib.hid hstay
        replace hcall := Lib.hid hcall
        replace hgn := Lib.hid hgn
        replace hHk := Lib.hid hHk
        replace hbk := Lib.hid hbk
        replace hkm := Lib.hid hkm
        by_cases hna : mm.x.a.toList = name.toList
        · go_wp2_with fail
          exact ⟨hstay.out, by first | omega | (simp only [intOf]; omega)⟩
        · by_cases hnb : mm.x.b.toList = name.toList
          · go_wp2_with fail
            exact ⟨hstay.out, by first | omega | (simp only [intOf]; omega)⟩
          · have hHn := hHk.out.act hne.out mm.x (bytes_ne fun e => hna (by rw [e])) (bytes_ne fun e => hnb (by rw [e]))
            replace hHn := Lib.hid hHn
            have hna2 : (mm.x.a.toList == name.toList) = false := by simpa using hna
            have hnb2 : (mm.x.b.toList == name.toList) = false := by simpa using hnb
            go_wp2_with fail
            refine hcall.out.mono ?_
            rintro e w11 ⟨rfl, h11, b11⟩
            have hb11 := hbk.out.trans b11
            replace hb11 := Lib.hid hb11
            clear b11 q0 q1 q2 q3 q4 q5 q6
            go_wp2_with fail
            exact ⟨⟨k + 1, _, by omega, rfl, h11, hgn.out, hHn.out, hb11.out⟩, by first | omega | (simp only [intOf]; omega)⟩
      · obtain rfl : k = m.length := by omega
        have hlt' : ¬ (m.length : Int) < m.length := by omega
        have hBk := hBA.out.trans (hbk.mono hz4)
        have hCk := hC1.out.below hBk (by omega)
        have q0 := hCk.cell 0
        have q1 := hCk.cell 1
        have q2 := hCk.cell 2
        have hq := hCk.lt
        have hDs := hDk.size
        have hcr := Crash_dw hDk (Below.refl _ _) gk (by omega) c KA PA kc pc ((hc1.out.below hBk (by omega)).at_ (by omega) hck hcp) (fun ad e => .inl (by have := hc1.out.under (Nat.le_refl _) ad e; omega))
        have gc := gk.crash c
        have hHc := hHk.crash c
        unfold craV at hcr
        replace hcr := Lib.hid hcr
        replace hHk := Lib.hid hHk
        replace hbk := Lib.hid hbk
        replace hBk := Lib.hid hBk
        replace hHc := Lib.hid hHc
        replace hCk := Lib.hid hCk
        go_wp2_with fail
        refine hcr.out.mono ?_
        rintro e w12 ⟨rfl, h12, b12⟩
        have hst := Start_dw h12
        have hHs := hHc.out.start
        have gs := gc.start
        replace hst := Lib.hid hst
        clear q0 q1 q2
        go_wp2_with fail
        refine hst.out.mono ?_
        rintro e w13 ⟨rfl, h13, b13⟩
        have hre := Read_dw h13 gs name (by omega)
        rw [hHs.read rfl] at hre
        simp only [] at hre
        have hBf := hBk.out.trans ((b12.trans b13).mono hz4)
        replace hre := Lib.hid hre
        replace hHs := Lib.hid hHs
        replace hBf := Lib.hid hBf
        clear b12 b13
        go_wp2_with fail
        refine hre.out.mono ?_
        rintro e w' ⟨rfl, rfl⟩
        go_wp2_with fail
        refine (hawk.out _).mono ?_
        rintro e w9 ⟨rfl, hb9⟩
        have hfin := hal.out.trans ((hBf.out.trans (hb9.mono hBf.out.size)).mono (by omega))
        replace hfin := Lib.hid hfin
        clear hb9
        go_wp2_with fail
        go_ret
        exact ⟨rfl, hfin.out⟩
end Go.Proofs.Ytkhicfoikkllmaa
