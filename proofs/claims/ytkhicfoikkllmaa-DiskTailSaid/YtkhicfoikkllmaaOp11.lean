/- Rows of bytes: one byte set, the end cut off. -/
import Derived.Test.YtkhicfoikkllmaaOp10
namespace Go.Proofs.Ytkhicfoikkllmaa
open Go.RowKit
set_option linter.unusedVariables false
set_option linter.unusedSimpArgs false
theorem OwnB.cut {w : World} {base : Nat} {A : Option Addr} {n cap : Nat} {l : List UInt8} (h : OwnB w base (.slice A n cap) l) {m : Nat} (hm : m ≤ l.length) : OwnB w base (.slice A m cap) (l.take m) ∨ (A = none ∧ l = []) := by
  obtain ⟨h1, h2⟩ := h
  rcases h2 with ⟨hv, hn⟩ | ⟨g, cap', cur, hv, hb, hg, hnc, hcm, hcs, ht⟩
  · right
    injection hv with hv
    exact ⟨hv, List.eq_nil_of_length_eq_zero (by simpa using hn)⟩
  · left
    injection hv with e1 e2 e3
    subst e1 e2 e3
    refine ⟨by simp [List.length_take], .inr ⟨g, cap, cur, by rw [List.length_take, Nat.min_eq_left hm], hb, hg, by rw [List.length_take, Nat.min_eq_left hm]; omega, hcm, hcs, ?_⟩⟩
    simp only [Nat.mul_one] at ht ⊢
    rw [List.length_take, Nat.min_eq_left hm, List.map_take, ← ht, List.take_take, Nat.min_eq_left hm]
theorem OwnB.setAt {w : World} {base g cap : Nat} {l : List UInt8} (h : OwnB w base (.slice (some ⟨g, 0, none⟩) l.length cap) l) {i : Nat} (hi : i < l.length) (c : UInt8) : OwnB (w.setCell ⟨g, i, none⟩ (B8 c)) base (.slice (some ⟨g, 0, none⟩) l.length cap) (l.set i c) := by
  obtain ⟨h1, h2⟩ := h
  rcases h2 with ⟨hv, hn⟩ | ⟨g', cap', cur, hv, hb, hg, hnc, hcm, hcs, ht⟩
  · cases hv
  · injection hv with e1 e2 e3
    injection e1 with e1
    injection e1 with e1
    subst e1 e3
    refine ⟨by simp, .inr ⟨g, cap, cur.setIfInBounds i (B8 c), by simp, hb, ?_, by simpa using hnc, hcm, by simpa using hcs, ?_⟩⟩
    · simp [World.setCell, Array.getElem?_modify, hg]
    · simp only [Nat.mul_one, List.length_set] at ht ⊢
      rw [Array.toList_setIfInBounds, List.take_set, ht, List.map_set]
theorem OwnB.cellAt {w : World} {base g n cap : Nat} {l : List UInt8} (h : OwnB w base (.slice (some ⟨g, 0, none⟩) n cap) l) {i : Nat} (hi : i < l.length) : w.cell? ⟨g, i, none⟩ = some (B8 (l[i])) ∧ w.frozen? ⟨g, i, none⟩ = false := by
  obtain ⟨h1, h2⟩ := h
  rcases h2 with ⟨hv, hn⟩ | ⟨g', cap', cur, hv, hb, hg, hnc, hcm, hcs, ht⟩
  · cases hv
  · injection hv with e1 e2 e3
    injection e1 with e1
    injection e1 with e1
    subst e1
    simp only [Nat.mul_one] at ht
    have hc : cur[i]? = some (B8 l[i]) := by
      have h3 : (cur.toList.take l.length)[i]? = (l.map B8)[i]? := by rw [ht]
      rw [List.getElem?_take_of_lt hi, List.getElem?_map, List.getElem?_eq_getElem hi] at h3
      simpa using h3
    refine ⟨(cell_of_row w g i cur _ (0, 0) hg).trans hc, ?_⟩
    exact Blk.frozen (show Blk w g _ cur from hg) i
/-- Where a crash turns: Go's '(at%keep + keep) % keep'. -/
theorem at_eq (sa : Int) (q : Nat) (h0 : 0 < q) (hq : q ≤ 1048576) : (wrap64 (sa.tmod q + q)).tmod q = ((sa % (q : Int)).toNat : Nat) := by
  have h1 : -(q : Int) < sa.tmod q := by
    have := Int.lt_tmod_of_pos sa (b := (q : Int)) (by omega)
    omega
  have h2 : sa.tmod q < q := Int.tmod_lt_of_pos sa (by omega)
  have hw : wrap64 (sa.tmod q + q) = sa.tmod q + q := by
    unfold wrap64
    omega
  rw [hw, Int.tmod_eq_emod_of_nonneg (by omega)]
  have h3 : (sa.tmod q + q) % (q : Int) = sa % q := by
    rw [Int.add_emod_right, Int.tmod_def]
    have : sa - q * sa.tdiv q = sa + q * (-(sa.tdiv q)) := by rw [Int.mul_neg]; omega
    rw [this, Int.add_mul_emod_self_left]
  rw [h3]
  have := Int.emod_nonneg sa (b := (q : Int)) (by omega)
  omega
theorem xorAt_mid (A l B : List UInt8) (j : Nat) (m : UInt8) (h : j < l.length) : xorAt (A ++ l ++ B) (A.length + j) m = A ++ xorAt l j m ++ B := by
  rw [xorAt_some m (by simp; omega), xorAt_some m h]
  have e : (A ++ l ++ B)[A.length + j]'(by simp; omega) = l[j] := by
    rw [List.getElem_append_left (by simp; omega), List.getElem_append_right (by omega)]
    simp
  rw [e, List.set_append_left _ _ (by simp; omega), List.set_append_right _ _ (by omega)]
  simp
end Go.Proofs.Ytkhicfoikkllmaa
