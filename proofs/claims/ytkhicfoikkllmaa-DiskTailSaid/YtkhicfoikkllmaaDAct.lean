/- Contracts: an act in memory; Does. -/
import Derived.Test.YtkhicfoikkllmaaDAwk
namespace Go.Proofs.Ytkhicfoikkllmaa
open Go.RowKit
set_option linter.unusedVariables false
set_option linter.unusedSimpArgs false
/-- A crash's choices in memory below a mark. -/
structure CraR (B : Nat) (w : World) (c : Cra) (KA PA : Option Addr) : Prop where
  keep : Reads w B 1 KA c.keep.length (keepV c.keep)
  spoil : Reads w B 2 PA c.spoil.length (spoilV c.spoil)
  kb : ∀ x ∈ c.keep, -9223372036854775808 ≤ x ∧ x ≤ 9223372036854775807
  pb : ∀ p ∈ c.spoil, -9223372036854775808 ≤ p.1 ∧ p.1 ≤ 9223372036854775807 ∧ p.2 < 4294967296
theorem CraR.below {B C : Nat} {w w' : World} {c : Cra} {KA PA : Option Addr} (h : CraR B w c KA PA) (hb : Below C w w') (hC : B ≤ C) : CraR B w' c KA PA :=
  ⟨h.keep.below (hb.mono hC), h.spoil.below (hb.mono hC), h.kb, h.pb⟩
theorem CraR.at_ {B : Nat} {w : World} {c : Cra} {KA PA : Option Addr} (h : CraR B w c KA PA) (hB : B ≤ w.heap.size) (hk : c.keep.length ≤ 100) (hp : c.spoil.length ≤ 100) : CraAt w c KA PA := ⟨h.keep.more hB, h.spoil.more hB, hk, hp, h.kb, h.pb⟩
theorem CraR.under {B : Nat} {w : World} {c : Cra} {KA PA : Option Addr} (h : CraR B w c KA PA) {C : Nat} (hC : B ≤ C) : ∀ ad, (c.keep ≠ [] ∧ KA = some ad) ∨ (c.spoil ≠ [] ∧ PA = some ad) → ad.block < C := by
  intro ad e
  rcases e with ⟨hne, e⟩ | ⟨hne, e⟩
  · obtain ⟨ad', e', h', _⟩ := h.keep.2 (by cases hcs : c.keep with | nil => exact absurd hcs hne | cons _ _ => simp)
    rw [e] at e'
    injection e' with e'
    rw [e']
    omega
  · obtain ⟨ad', e', h', _⟩ := h.spoil.2 (by cases hcs : c.spoil with | nil => exact absurd hcs hne | cons _ _ => simp)
    rw [e] at e'
    injection e' with e'
    rw [e']
    omega
structure MAct where
  x : AAct
  KA : Option Addr
  kc : Nat
  PA : Option Addr
  pc : Nat
def mactC (m : MAct) : List Value := [.int .u8 (m.x.c : Nat), .string m.x.a, .string m.x.b, .int .i64 m.x.n, .int .i64 m.x.cr.names, .slice m.KA m.x.cr.keep.length m.kc, .slice m.PA m.x.cr.spoil.length m.pc]
def mactV (m : MAct) : Value := .agg #[.int .u8 (m.x.c : Nat), .string m.x.a, .string m.x.b, .int .i64 m.x.n, .int .i64 m.x.cr.names, .slice m.KA m.x.cr.keep.length m.kc, .slice m.PA m.x.cr.spoil.length m.pc]
def mactsV (l : List MAct) : List Value := l.flatMap mactC
/-- What holds of any act that came in. -/
structure MOk (B : Nat) (w : World) (m : MAct) : Prop where
  cr : CraR B w m.x.cr m.KA m.PA
  c : m.x.c < 256
  a : m.x.a.size ≤ maxLen
  b : m.x.b.size ≤ maxLen
  n : m.x.n ≤ 9223372036854775807
  kl : m.x.cr.keep.length ≤ maxLen
  pl : m.x.cr.spoil.length ≤ maxLen
/-- What Great leaves. -/
structure MSmall (m : MAct) : Prop where
  a : m.x.a.size ≤ 20000
  b : m.x.b.size ≤ 20000
  k : m.x.cr.keep.length ≤ 100
  p : m.x.cr.spoil.length ≤ 100
theorem MOk.below {B C : Nat} {w w' : World} {m : MAct} (h : MOk B w m) (hb : Below C w w') (hC : B ≤ C) : MOk B w' m := ⟨h.cr.below hb hC, h.c, h.a, h.b, h.n, h.kl, h.pl⟩
theorem Went.after {w W1 w' : World} {F : Nat → Prop} {d : Nat} {s : Dsk} (hal : Below w.heap.size w W1) (h : Went W1 w' F d s) : Went w w' F d s := by
  obtain ⟨L, hL⟩ := h.at_
  have hs := hal.size
  exact ⟨(KeptBut.of_below hal (S := F)).trans h.kept (fun _ _ e => e), L, hL.more fun k hk => hk.imp id fun e => ⟨by omega, e.2⟩⟩
set_option maxRecDepth 100000 in
set_option maxHeartbeats 4000000 in
theorem Does_went {w : World} {F : Nat → Prop} {d : Nat} {L : Lay} {s : Dsk} {m : Nat} (h : DskAt w F d L s) (g : s.Good m) (hm : m ≤ 536870912) (x : MAct) {C : Nat} (hx : MOk C w x) (hC : C ≤ w.heap.size) (hF : ∀ k, F k → C ≤ k) (hs : MSmall x) :
    Calls Try.prog 18 #[.pointer (some ⟨d, 0, none⟩), mactV x] w fun e w' => e = .returned (.tuple #[.string (bs (s.act x.x).2.1), .int .i64 ((s.act x.x).2.2 : Nat)]) ∧ Went w w' F d (s.act x.x).1 := by
  obtain ⟨⟨c, a, b, n, cr⟩, KA, kc, PA, pc⟩ := x
  obtain ⟨hr, hc, _, _, hn, _, _⟩ := hx
  obtain ⟨ha, hb, hk, hp⟩ := hs
  simp only [] at hr hc hn ha hb hk hp
  replace ha : a.size ≤ 1073741824 := by omega
  replace hb : b.size ≤ 1073741824 := by omega
  have hal : Below w.heap.size w (w.alloc (.cells #[.int .u8 (c : Nat), .string a, .string b, .int .i64 n, .int .i64 cr.names, .slice KA cr.keep.length kc, .slice PA cr.spoil.length pc] 41)) := (Below.refl _ _).alloc (Nat.le_refl _) _
  have hD := h.below hal
  have hdF := h.inF.1
  have g1 := g.names
  have g2 := g.chg
  have g3 := g.load
  unfold mactV
  simp only []
  replace hal := Lib.hid hal
  have hcs : c = 0 ∨ c = 1 ∨ c = 2 ∨ c = 3 ∨ c = 4 ∨ c = 5 ∨ c = 6 ∨ c = 7 ∨ c = 8 ∨ c = 9 ∨ 10 ≤ c := by omega
  clear hc
  rcases hcs with rfl | rfl | rfl | rfl | rfl | rfl | rfl | rfl | rfl | rfl | hcs
  · have hR : s.act ⟨0, a, b, n, cr⟩ = ((s.create a.data.toList).1, [], (s.create a.data.toList).2) := rfl
    rw [hR]
    have hcall := Create_any hD g.ok a (by unfold maxLen; omega) (by omega) (by omega)
    replace hcall := Lib.hid hcall
    clear hR
    go_enter Try.func18, Try.ntmps18
    go_wp2_with fail
    refine hcall.out.mono ?_
    rintro e w2 ⟨rfl, hw2⟩
    have hfin := Went.after hal.out hw2
    replace hfin := Lib.hid hfin
    go_wp2_with fail
    go_ret2
    exact ⟨rfl, hfin.out⟩
  · have hR : s.act ⟨1, a, b, n, cr⟩ = ((s.append a.data.toList b.data.toList).1, [], (s.append a.data.toList b.data.toList).2) := rfl
    rw [hR]
    have hcall := Append_any hD g.ok a b (by unfold maxLen; omega) hb (by omega)
    replace hcall := Lib.hid hcall
    clear hR
    go_enter Try.func18, Try.ntmps18
    go_wp2_with fail
    refine hcall.out.mono ?_
    rintro e w2 ⟨rfl, hw2⟩
    have hfin := Went.after hal.out hw2
    replace hfin := Lib.hid hfin
    go_wp2_with fail
    go_ret2
    exact ⟨rfl, hfin.out⟩
  · have hR : s.act ⟨2, a, b, n, cr⟩ = ((s.sync a.data.toList).1, [], (s.sync a.data.toList).2) := rfl
    rw [hR]
    have hcall := Sync_any hD g.ok a (by unfold maxLen; omega)
    replace hcall := Lib.hid hcall
    clear hR
    go_enter Try.func18, Try.ntmps18
    go_wp2_with fail
    refine hcall.out.mono ?_
    rintro e w2 ⟨rfl, hw2⟩
    have hfin := Went.after hal.out hw2
    replace hfin := Lib.hid hfin
    go_wp2_with fail
    go_ret2
    exact ⟨rfl, hfin.out⟩
  · have hR : s.act ⟨3, a, b, n, cr⟩ = ((s.rename a.data.toList b.data.toList).1, [], (s.rename a.data.toList b.data.toList).2) := rfl
    rw [hR]
    have hcall := Rename_any hD g.ok a b (by unfold maxLen; omega) (by omega) (by omega)
    replace hcall := Lib.hid hcall
    clear hR
    go_enter Try.func18, Try.ntmps18
    go_wp2_with fail
    refine hcall.out.mono ?_
    rintro e w2 ⟨rfl, hw2⟩
    have hfin := Went.after hal.out hw2
    replace hfin := Lib.hid hfin
    go_wp2_with fail
    go_ret2
    exact ⟨rfl, hfin.out⟩
  · have hR : s.act ⟨4, a, b, n, cr⟩ = ((s.delete a.data.toList).1, [], (s.delete a.data.toList).2) := rfl
    rw [hR]
    have hcall := Delete_any hD g.ok a (by unfold maxLen; omega) (by omega) (by omega)
    replace hcall := Lib.hid hcall
    clear hR
    go_enter Try.func18, Try.ntmps18
    go_wp2_with fail
    refine hcall.out.mono ?_
    rintro e w2 ⟨rfl, hw2⟩
    have hfin := Went.after hal.out hw2
    replace hfin := Lib.hid hfin
    go_wp2_with fail
    go_ret2
    exact ⟨rfl, hfin.out⟩
  · have hR : s.act ⟨5, a, b, n, cr⟩ = (s.dirsync.1, [], s.dirsync.2) := rfl
    rw [hR]
    have hcall := DirSync_any hD g.ok
    replace hcall := Lib.hid hcall
    clear hR
    go_enter Try.func18, Try.ntmps18
    go_wp2_with fail
    refine hcall.out.mono ?_
    rintro e w2 ⟨rfl, hw2⟩
    have hfin := Went.after hal.out hw2
    replace hfin := Lib.hid hfin
    go_wp2_with fail
    go_ret2
    exact ⟨rfl, hfin.out⟩
  · have hR : s.act ⟨6, a, b, n, cr⟩ = (s.setFuse n, [], 0) := rfl
    rw [hR]
    have hcall := Fuse_any hD n
    replace hcall := Lib.hid hcall
    clear hR
    go_enter Try.func18, Try.ntmps18
    go_wp2_with fail
    refine hcall.out.mono ?_
    rintro e w2 ⟨rfl, hD2, hk2⟩
    have hfin := Went.after hal.out (.of (hk2.mono (fun k _ e => e ▸ hdF)) hD2)
    replace hfin := Lib.hid hfin
    go_wp2_with fail
    go_ret2
    exact ⟨rfl, hfin.out⟩
  · have hR : s.act ⟨7, a, b, n, cr⟩ = (s.crash cr, [], 0) := rfl
    rw [hR]
    have hcall := Crash_any hD g.ok (by omega) cr KA PA kc pc ((hr.below hal.out hC).at_ (by simp; omega) hk hp) (fun ad e h => by have := hr.under (Nat.le_refl _) ad e; have := hF _ h; omega)
    unfold craV at hcall
    replace hcall := Lib.hid hcall
    clear hR
    go_enter Try.func18, Try.ntmps18
    go_wp2_with fail
    refine hcall.out.mono ?_
    rintro e w2 ⟨rfl, hw2⟩
    have hfin := Went.after hal.out hw2
    replace hfin := Lib.hid hfin
    go_wp2_with fail
    go_ret2
    exact ⟨rfl, hfin.out⟩
  · have hR : s.act ⟨8, a, b, n, cr⟩ = (s.start, [], 0) := rfl
    rw [hR]
    have hcall := Start_any hD
    replace hcall := Lib.hid hcall
    clear hR
    go_enter Try.func18, Try.ntmps18
    go_wp2_with fail
    refine hcall.out.mono ?_
    rintro e w2 ⟨rfl, hD2, hk2⟩
    have hfin := Went.after hal.out (.of (hk2.mono (fun k _ e => e ▸ hdF)) hD2)
    replace hfin := Lib.hid hfin
    go_wp2_with fail
    go_ret2
    exact ⟨rfl, hfin.out⟩
  · have hR : s.act ⟨9, a, b, n, cr⟩ = (s, s.read a.data.toList) := rfl
    rw [hR]
    have hcall := Read_any hD g.ok a (by unfold maxLen; omega)
    replace hcall := Lib.hid hcall
    have hfin := Went.after hal.out (.of (KeptBut.refl _ _) hD)
    replace hfin := Lib.hid hfin
    clear hR
    go_enter Try.func18, Try.ntmps18
    go_wp2_with fail
    refine hcall.out.mono ?_
    rintro e w2 ⟨rfl, rfl⟩
    go_wp2_with fail
    go_ret2
    exact ⟨rfl, hfin.out⟩
  · have hR : s.act ⟨c, a, b, n, cr⟩ = (s, [], 0) := by
      unfold Dsk.act
      simp only []
      rw [if_neg (by omega), if_neg (by omega), if_neg (by omega), if_neg (by omega), if_neg (by omega), if_neg (by omega), if_neg (by omega), if_neg (by omega), if_neg (by omega), if_neg (by omega)]
    rw [hR]
    have hfin := Went.after hal.out (.of (KeptBut.refl _ _) hD)
    replace hfin := Lib.hid hfin
    clear hR
    have q0 : ¬ (c : Int) = 0 := by omega
    have q1 : ¬ (c : Int) = 1 := by omega
    have q2 : ¬ (c : Int) = 2 := by omega
    have q3 : ¬ (c : Int) = 3 := by omega
    have q4 : ¬ (c : Int) = 4 := by omega
    have q5 : ¬ (c : Int) = 5 := by omega
    have q6 : ¬ (c : Int) = 6 := by omega
    have q7 : ¬ (c : Int) = 7 := by omega
    have q8 : ¬ (c : Int) = 8 := by omega
    have q9 : ¬ (c : Int) = 9 := by omega
    go_enter Try.func18, Try.ntmps18
    go_wp2_with fail
    go_ret2
    exact ⟨rfl, hfin.out⟩
theorem Does_any {B : Nat} {w : World} {d : Nat} {s : Dsk} {m : Nat} (h : Dw B w d s) (g : s.Good m) (hm : m ≤ 536870912) (x : MAct) {C : Nat} (hx : MOk C w x) (hC : C ≤ B) (hs : MSmall x) :
    Calls Try.prog 18 #[.pointer (some ⟨d, 0, none⟩), mactV x] w fun e w' => e = .returned (.tuple #[.string (bs (s.act x.x).2.1), .int .i64 ((s.act x.x).2.2 : Nat)]) ∧ Dw B w' d (s.act x.x).1 ∧ Below B w w' := by
  have hB := h.size
  obtain ⟨L, hL⟩ := h
  exact (Does_went hL g hm x hx (by omega) (fun k hk => by omega) hs).mono fun e w' ⟨he, hw⟩ => ⟨he, Dw.went hw hB⟩
end Go.Proofs.Ytkhicfoikkllmaa
