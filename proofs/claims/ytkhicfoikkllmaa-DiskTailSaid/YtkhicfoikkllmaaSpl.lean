/- What a crash turns of a tail: byte by byte. -/
import Derived.Test.YtkhicfoikkllmaaOp11
import Derived.Laws.BitsAllLaws
namespace Go.Proofs.Ytkhicfoikkllmaa
open Go.RowKit
set_option linter.unusedVariables false
set_option linter.unusedSimpArgs false
def SPk (l : List UInt8) (a sm j : Nat) : List UInt8 := (List.range j).foldl (fun l i => xorAt l (a + i) (UInt8.ofNat (sm / 2 ^ (8 * i)))) l
theorem SPk_zero (l : List UInt8) (a sm : Nat) : SPk l a sm 0 = l := rfl
theorem SPk_succ (l : List UInt8) (a sm j : Nat) : SPk l a sm (j + 1) = xorAt (SPk l a sm j) (a + j) (UInt8.ofNat (sm / 2 ^ (8 * j))) := by
  unfold SPk
  rw [List.range_succ, List.foldl_append]
  rfl
theorem SPk_len (l : List UInt8) (a sm : Nat) : ∀ j, (SPk l a sm j).length = l.length
  | 0 => rfl
  | j + 1 => by rw [SPk_succ, xorAt_len, SPk_len l a sm j]
/-- The whole file's bytes, when so many of the spot's bytes are turned. -/
def SPA (d : List UInt8) (k q a sm j : Nat) : List UInt8 := d.take k ++ SPk ((d.drop k).take q) a sm j ++ d.drop (k + q)
theorem SPA_zero (d : List UInt8) (k q a sm : Nat) : SPA d k q a sm 0 = d := by
  unfold SPA
  rw [SPk_zero, List.append_assoc, ← List.drop_drop, List.take_append_drop, List.take_append_drop]
theorem SPA_len {d : List UInt8} {k q : Nat} (h : k + q ≤ d.length) (a sm j : Nat) : (SPA d k q a sm j).length = d.length := by
  unfold SPA
  rw [List.length_append, List.length_append, SPk_len, List.length_take, List.length_take, List.length_drop, List.length_drop]
  omega
theorem SPA_take {d : List UInt8} {k q : Nat} (h : k + q ≤ d.length) (a sm j : Nat) : (SPA d k q a sm j).take (k + q) = d.take k ++ SPk ((d.drop k).take q) a sm j := by
  unfold SPA
  rw [List.take_append_of_le_length (by rw [List.length_append, SPk_len, List.length_take, List.length_take, List.length_drop]; omega)]
  exact List.take_of_length_le (by rw [List.length_append, SPk_len, List.length_take, List.length_take, List.length_drop]; omega)
theorem SPA_at {d : List UInt8} {k q a sm j : Nat} (h : k + q ≤ d.length) (hj : a + j < q) : k + (a + j) < (SPA d k q a sm j).length := by rw [SPA_len h]; omega
theorem SPA_succ {d : List UInt8} {k q a sm j : Nat} (h : k + q ≤ d.length) (hj : a + j < q) : (SPA d k q a sm j).set (k + (a + j)) ((SPA d k q a sm j)[k + (a + j)]'(SPA_at h hj) ^^^ UInt8.ofNat (sm / 2 ^ (8 * j))) = SPA d k q a sm (j + 1) := by
  have e := xorAt_mid (d.take k) (SPk ((d.drop k).take q) a sm j) (d.drop (k + q)) (a + j) (UInt8.ofNat (sm / 2 ^ (8 * j))) (by rw [SPk_len, List.length_take, List.length_drop]; omega)
  rw [show (d.take k).length = k from by rw [List.length_take]; omega] at e
  have e2 := xorAt_some (l := SPA d k q a sm j) (UInt8.ofNat (sm / 2 ^ (8 * j))) (SPA_at h hj)
  rw [← e2]
  unfold SPA
  rw [SPk_succ]
  exact e
theorem tailC_spoil {c : Cra} {k q a sm : Nat} {sa : Int} {t : List UInt8} (hk : keepN c k t.length = q) (hl : (t.take q).length = q) (h0 : 0 < q) (hs : c.spoil[k]? = some (sa, sm)) (ha : (sa % (q : Int)).toNat = a) : tailC c k t = SPk (t.take q) a sm (min 4 (q - a)) := by
  unfold tailC
  simp only []
  rw [hk, if_neg (by rw [List.isEmpty_iff]; intro h; rw [h] at hl; simp at hl; omega), hs]
  show spoilT (t.take q) sa sm = _
  unfold spoilT SPk
  simp only []
  rw [hl, ha]
/-- A byte of the row turned in memory. -/
theorem SPA_step {w : World} {g cap k q a sm j : Nat} {d : List UInt8} (h : k + q ≤ d.length) (ho : OwnB w 0 (.slice (some ⟨g, 0, none⟩) d.length cap) (SPA d k q a sm j)) (hj : a + j < q) :
    ∃ x : UInt8, w.cell? ⟨g, k + (a + j), none⟩ = some (B8 x) ∧ w.frozen? ⟨g, k + (a + j), none⟩ = false ∧
      OwnB (w.setCell ⟨g, k + (a + j), none⟩ (B8 (x ^^^ UInt8.ofNat (sm / 2 ^ (8 * j))))) 0 (.slice (some ⟨g, 0, none⟩) d.length cap) (SPA d k q a sm (j + 1)) := by
  have hat := SPA_at (sm := sm) h hj
  obtain ⟨c1, c2⟩ := ho.cellAt hat
  refine ⟨_, c1, c2, ?_⟩
  have hl := SPA_len h a sm j
  rw [← SPA_succ h hj]
  rw [← hl] at ho ⊢
  exact ho.setAt hat _
/-- The byte that is stored: what the machine computes. -/
theorem xor_val (x : UInt8) (sm j : Nat) (hs : sm < 4294967296) (hj : j < 4) : ((x ^^^ UInt8.ofNat (sm / 2 ^ (8 * j))).toNat : Int) = ((x.toNat ^^^ (sm / 2 ^ (8 * j)) % 256 : Nat) : Int) := by
  rw [UInt8.toNat_xor, UInt8.toNat_ofNat']
theorem xor_bits (x : UInt8) (sm j : Nat) (hs : sm < 4294967296) (hj : j < 4) : bits .xor .u8 (x.toNat : Int) ((sm : Int) / 2 ^ (8 * j) % 256) = ((x ^^^ UInt8.ofNat (sm / 2 ^ (8 * j))).toNat : Int) := by
  have e : ((sm / 2 ^ (8 * j) % 256 : Nat) : Int) = (sm : Int) / 2 ^ (8 * j) % 256 := by
    rw [Int.natCast_emod, Int.natCast_ediv, Int.natCast_pow]
    rfl
  rw [xor_val x sm j hs hj, ← u8_xor_nat x.toNat (sm / 2 ^ (8 * j) % 256) (UInt8.toNat_lt x) (Nat.mod_lt _ (by omega)), e]
theorem plain_add {w : World} {a : Addr} {v : Value} (h : w.cell? (a.add 0) = some v) : ∃ b o, a = ⟨b, o, none⟩ := by
  obtain ⟨b, o, s⟩ := a
  cases s with
  | none => exact ⟨b, o, rfl⟩
  | some s =>
    exfalso
    unfold Addr.add World.cell? at h
    split at h <;> (try split at h) <;> simp_all
theorem add_plain2 (b o n : Nat) : (⟨b, o, none⟩ : Addr).add n = ⟨b, o + n, none⟩ := by unfold Addr.add; split <;> simp_all
end Go.Proofs.Ytkhicfoikkllmaa
