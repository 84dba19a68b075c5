/- Contracts of packages okey and rows: a client's key, a client's value. -/
import Derived.Test.YtbaobjkhdieapaaDoorKey
namespace Go.Proofs.YtbaobjkhdieapaaDoor
open Go.RowKit
set_option linter.unusedVariables false
set_option linter.unusedSimpArgs false

theorem bcell {W w1 : World} (hb : Below W.heap.size W w1) : (∀ b o, b < W.heap.size → w1.cell? ⟨b, o, none⟩ = W.cell? ⟨b, o, none⟩) ∧ (∀ b o, b < W.heap.size → w1.frozen? ⟨b, o, none⟩ = W.frozen? ⟨b, o, none⟩) :=
  ⟨fun b o h => hb.cell (p := ⟨b, o, none⟩) h, fun b o h => hb.frozen (p := ⟨b, o, none⟩) h⟩

set_option maxRecDepth 100000 in
set_option maxHeartbeats 2000000 in
theorem Num_any (n : Int) (w : World) :
    Calls Tryd.prog 25 #[.int .u64 n] w fun e w' => e = .returned (.agg #[.bool false, .string ⟨#[]⟩, .int .u64 n]) ∧ Below w.heap.size w w' := by
  go_enter Tryd.func25, Tryd.ntmps25
  go_wp2
  exact bodyPost_ret (v := .agg #[.bool false, .string ⟨#[]⟩, .int .u64 n]) (by simp [results, Tryd.results25, go_sem]) rfl ⟨rfl, (by repeat' first | (with_reducible exact Below.refl _ _) | (with_reducible refine Below.setCell ?_ ?_ _) | (with_reducible refine Below.alloc ?_ ?_ _) | (with_reducible refine Below.drew ?_) | (with_reducible refine Below.trans ?_ (Below.mono (by assumption) ?_)) | omega | (simp; done) | (simp; omega))⟩

def clientL (c : Nat) : List UInt8 := keyL [7, c]
theorem clientL_len (c : Nat) : (clientL c).length ≤ 20 := keyL_len [7, c]

set_option maxRecDepth 100000 in
set_option maxHeartbeats 2000000 in
theorem ClientKey_any (c : Int) (w : World) (h0 : 0 ≤ c) (h1 : c ≤ 255) :
    Calls Tryd.prog 16 #[.int .u8 c] w fun e w' => e = .returned (.string (bs (clientL c.toNat))) ∧ Below w.heap.size w w' := by
  go_enter Tryd.func16, Tryd.ntmps16
  go_wp2_with fail
  go_at_call 25
  refine (Num_any 7 _).mono ?_
  rintro e w1 ⟨rfl, hb1⟩
  obtain ⟨hc1, hf1⟩ := bcell hb1
  have z1 := hb1.size
  try simp at z1
  clear hc1 hf1
  go_wp2_with fail
  go_at_call 25
  refine (Num_any c _).mono ?_
  rintro e w2 ⟨rfl, hb2⟩
  obtain ⟨hc2, hf2⟩ := bcell hb2
  have z2 := hb2.size
  try simp at z2
  clear hc2 hf2
  go_wp2_with fail
  refine (Key_any (some ⟨w2.heap.size, 0, none⟩) [7, c] 2 _ ⟨rfl, fun _ => ⟨_, rfl, by simp, fun j u hu => ?_⟩⟩ ?_ (by simp)).mono ?_
  · have hj : j < 6 := by
      rcases Nat.lt_or_ge j 6 with h | h
      · exact h
      · rw [List.getElem?_eq_none (by simp [partsV]; omega)] at hu; cases hu
    have hcell : ∀ i : Nat, (w2.alloc (Obj.cells #[Value.bool false, Value.string { data := #[] }, Value.int IntKind.u64 7, Value.bool false, Value.string { data := #[] }, Value.int IntKind.u64 c] 69)).cell? ⟨w2.heap.size, i, none⟩ = (#[Value.bool false, Value.string { data := #[] }, Value.int IntKind.u64 7, Value.bool false, Value.string { data := #[] }, Value.int IntKind.u64 c])[i]? := fun i => World.cell?_alloc_new _ _ _ _
    match j, hj with
    | 0, _ => exact (hcell 0).trans hu
    | 1, _ => exact (hcell 1).trans hu
    | 2, _ => exact (hcell 2).trans hu
    | 3, _ => exact (hcell 3).trans hu
    | 4, _ => exact (hcell 4).trans hu
    | 5, _ => exact (hcell 5).trans hu
  · intro n hn
    simp at hn
    rcases hn with rfl | rfl
    · exact ⟨by omega, by omega⟩
    · exact ⟨by omega, by omega⟩
  rintro e w3 ⟨rfl, hb3⟩
  go_wp2_with fail
  go_ret
  exact ⟨rfl, (by repeat' first | (with_reducible exact Below.refl _ _) | (with_reducible refine Below.setCell ?_ ?_ _) | (with_reducible refine Below.alloc ?_ ?_ _) | (with_reducible refine Below.drew ?_) | (with_reducible refine Below.trans ?_ (Below.mono (by assumption) ?_)) | omega | (simp; done) | (simp; omega))⟩
end Go.Proofs.YtbaobjkhdieapaaDoor
