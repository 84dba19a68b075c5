/- Contracts: a disk all of whose memory was made behind a mark. -/
import Derived.Test.YtkhicfoikkllmaaCrash
import Derived.Test.YtkhicfoikkllmaaLastS3
namespace Go.Proofs.Ytkhicfoikkllmaa
open Go.RowKit
set_option linter.unusedVariables false
set_option linter.unusedSimpArgs false
def Dw (B : Nat) (w : World) (d : Nat) (s : Dsk) : Prop := ∃ L, DskAt w (fun k => B ≤ k ∧ k < w.heap.size) d L s
section
variable {B : Nat} {w w' : World} {d : Nat} {s s' : Dsk}
theorem Dw.lt (h : Dw B w d s) : B ≤ d ∧ d < w.heap.size := by
  obtain ⟨L, hL⟩ := h
  exact hL.inF.1
theorem Dw.size (h : Dw B w d s) : B ≤ w.heap.size := by have := h.lt; omega
theorem Dw.went (h : Went w w' (fun k => B ≤ k ∧ k < w.heap.size) d s') (hB : B ≤ w.heap.size) : Dw B w' d s' ∧ Below B w w' := by
  obtain ⟨L, hL⟩ := h.at_
  have hs := h.kept.size
  refine ⟨⟨L, hL.more fun k hk => ?_⟩, h.kept.below (fun k hk => hk.1) hB⟩
  rcases hk with hk | hk
  · exact ⟨hk.1, by omega⟩
  · exact ⟨by omega, hk.2⟩
theorem Dw.box {L : Lay} (hB : B ≤ w.heap.size) (hk : KeptBut w w' (fun k => k = d)) (h : DskAt w' (fun k => B ≤ k ∧ k < w.heap.size) d L s') : Dw B w' d s' ∧ Below B w w' := by
  have hs := hk.size
  have hd := h.inF.1
  exact ⟨⟨L, h.more fun k hk => ⟨hk.1, by omega⟩⟩, hk.below (fun k e => by omega) hB⟩
theorem Dw.below {C : Nat} (h : Dw B w d s) (hb : Below C w w') (hC : w.heap.size ≤ C) : Dw B w' d s := by
  obtain ⟨L, hL⟩ := h
  have hs := hb.size
  have h2 : Below w.heap.size w w' := hb.mono hC
  exact ⟨L, (hL.below h2).more fun k hk => ⟨hk.1, by omega⟩⟩
theorem New_dw (r : Int) (w : World) : Calls Try.prog 11 #[.int .i64 r] w fun e w' => ∃ d, e = .returned (.pointer (some ⟨d, 0, none⟩)) ∧ Dw w.heap.size w' d (Dsk.new r) ∧ Below w.heap.size w w' :=
  (New_any r w).mono fun e w' ⟨d, he, hL, hb⟩ => ⟨d, he, hL, hb⟩
theorem Crash_dw {m : Nat} {w0 : World} (h : Dw B w0 d s) (hb : Below w0.heap.size w0 w) (g : s.Good m) (hm : m ≤ 536870912) (c : Cra) (KA PA : Option Addr) (kc pc : Nat) (hc : CraAt w c KA PA)
    (hA : ∀ ad, (c.keep ≠ [] ∧ KA = some ad) ∨ (c.spoil ≠ [] ∧ PA = some ad) → ad.block < B ∨ w0.heap.size ≤ ad.block) :
    Calls Try.prog 19 #[.pointer (some ⟨d, 0, none⟩), craV c KA kc PA pc] w fun e w' => e = .returned (.tuple #[]) ∧ Dw B w' d (s.crash c) ∧ Below B w w' := by
  have hB := h.size
  have hs := hb.size
  obtain ⟨L, hL⟩ := h
  have hl := g.load
  refine (Crash_any (hL.below hb) g.ok (by omega) c KA PA kc pc hc (fun ad e => ?_)).mono ?_
  · have a1 := hA ad e
    exact fun h => by omega
  · rintro e w' ⟨he, hw⟩
    obtain ⟨L', hL'⟩ := hw.at_
    have hs' := hw.kept.size
    refine ⟨he, ⟨L', hL'.more fun k hk => ?_⟩, hw.kept.below (fun k hk => hk.1) (by omega)⟩
    rcases hk with hk | hk
    · exact ⟨hk.1, by omega⟩
    · exact ⟨by omega, hk.2⟩
variable {m : Nat} (h : Dw B w d s) (g : s.Good m) (hm : m < 1073741824) (n : ByteArray) (hn : n.size ≤ 1073741824)
include h g hm hn
theorem Create_dw : Calls Try.prog 25 #[.pointer (some ⟨d, 0, none⟩), .string n] w fun e w' => e = .returned (.int .i64 ((s.create n.data.toList).2 : Nat)) ∧ Dw B w' d (s.create n.data.toList).1 ∧ Below B w w' := by
  have hB := h.size
  obtain ⟨L, hL⟩ := h
  have h1 := g.names
  have h2 := g.chg
  exact (Create_any hL g.ok n (by unfold maxLen; omega) (by omega) (by omega)).mono fun e w' ⟨he, hw⟩ => ⟨he, Dw.went hw hB⟩
theorem Append_dw (x : ByteArray) (hx : x.size ≤ 1073741824) : Calls Try.prog 26 #[.pointer (some ⟨d, 0, none⟩), .string n, .string x] w fun e w' => e = .returned (.int .i64 ((s.append n.data.toList x.data.toList).2 : Nat)) ∧ Dw B w' d (s.append n.data.toList x.data.toList).1 ∧ Below B w w' := by
  have hB := h.size
  obtain ⟨L, hL⟩ := h
  have h1 := g.names
  exact (Append_any hL g.ok n x (by unfold maxLen; omega) hx (by omega)).mono fun e w' ⟨he, hw⟩ => ⟨he, Dw.went hw hB⟩
theorem Delete_dw : Calls Try.prog 28 #[.pointer (some ⟨d, 0, none⟩), .string n] w fun e w' => e = .returned (.int .i64 ((s.delete n.data.toList).2 : Nat)) ∧ Dw B w' d (s.delete n.data.toList).1 ∧ Below B w w' := by
  have hB := h.size
  obtain ⟨L, hL⟩ := h
  have h1 := g.names
  have h2 := g.chg
  exact (Delete_any hL g.ok n (by unfold maxLen; omega) (by omega) (by omega)).mono fun e w' ⟨he, hw⟩ => ⟨he, Dw.went hw hB⟩
theorem Rename_dw (x : ByteArray) : Calls Try.prog 27 #[.pointer (some ⟨d, 0, none⟩), .string n, .string x] w fun e w' => e = .returned (.int .i64 ((s.rename n.data.toList x.data.toList).2 : Nat)) ∧ Dw B w' d (s.rename n.data.toList x.data.toList).1 ∧ Below B w w' := by
  have hB := h.size
  obtain ⟨L, hL⟩ := h
  have h1 := g.names
  have h2 := g.chg
  exact (Rename_any hL g.ok n x (by unfold maxLen; omega) (by omega) (by omega)).mono fun e w' ⟨he, hw⟩ => ⟨he, Dw.went hw hB⟩
omit hm in
theorem Sync_dw : Calls Try.prog 15 #[.pointer (some ⟨d, 0, none⟩), .string n] w fun e w' => e = .returned (.int .i64 ((s.sync n.data.toList).2 : Nat)) ∧ Dw B w' d (s.sync n.data.toList).1 ∧ Below B w w' := by
  have hB := h.size
  obtain ⟨L, hL⟩ := h
  exact (Sync_any hL g.ok n (by unfold maxLen; omega)).mono fun e w' ⟨he, hw⟩ => ⟨he, Dw.went hw hB⟩
omit hm in
theorem Read_dw : Calls Try.prog 17 #[.pointer (some ⟨d, 0, none⟩), .string n] w fun e w' => e = .returned (.tuple #[.string (bs (s.read n.data.toList).1), .int .i64 ((s.read n.data.toList).2 : Nat)]) ∧ w = w' := by
  obtain ⟨L, hL⟩ := h
  exact Read_any hL g.ok n (by unfold maxLen; omega)
omit hm hn n in
theorem DirSync_dw : Calls Try.prog 16 #[.pointer (some ⟨d, 0, none⟩)] w fun e w' => e = .returned (.int .i64 (s.dirsync.2 : Nat)) ∧ Dw B w' d s.dirsync.1 ∧ Below B w w' := by
  have hB := h.size
  obtain ⟨L, hL⟩ := h
  exact (DirSync_any hL g.ok).mono fun e w' ⟨he, hw⟩ => ⟨he, Dw.went hw hB⟩
omit g hm hn n in
theorem Start_dw : Calls Try.prog 13 #[.pointer (some ⟨d, 0, none⟩)] w fun e w' => e = .returned (.tuple #[]) ∧ Dw B w' d s.start ∧ Below B w w' := by
  have hB := h.size
  obtain ⟨L, hL⟩ := h
  exact (Start_any hL).mono fun e w' ⟨he, hw, hk⟩ => ⟨he, Dw.box hB hk hw⟩
omit g hm hn n in
theorem Fuse_dw (k : Int) : Calls Try.prog 14 #[.pointer (some ⟨d, 0, none⟩), .int .i64 k] w fun e w' => e = .returned (.tuple #[]) ∧ Dw B w' d (s.setFuse k) ∧ Below B w w' := by
  have hB := h.size
  obtain ⟨L, hL⟩ := h
  exact (Fuse_any hL k).mono fun e w' ⟨he, hw, hk⟩ => ⟨he, Dw.box hB hk hw⟩
end
end Go.Proofs.Ytkhicfoikkllmaa
