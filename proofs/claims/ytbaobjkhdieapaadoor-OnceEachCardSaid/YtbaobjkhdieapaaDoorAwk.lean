/- The law's awake. -/
import Derived.Test.YtbaobjkhdieapaaDoorAsk
import Derived.Test.YtbaobjkhdieapaaDoorPure2
namespace Go.Proofs.YtbaobjkhdieapaaDoor
open Go.RowKit
set_option linter.unusedVariables false
set_option linter.unusedSimpArgs false

theorem ShelfAt.lt {w : World} {b : Nat} {A : Option Addr} {l : List Op3} {cap : Nat} {asked : Int} (h : ShelfAt w b A l cap asked) : b < w.heap.size := by
  rcases Nat.lt_or_ge b w.heap.size with h' | h'
  · exact h'
  · have := h.box; rw [Array.getElem?_eq_none h'] at this; cases this
theorem ShelfAt.next {w w' : World} {b : Nat} {A : Option Addr} {l : List Op3} {cap : Nat} {asked : Int} (h : ShelfAt w b A l cap asked) (hb : Below w.heap.size (w.setCell ⟨b, 1, none⟩ (.int .i64 (asked + 1))) w') : ShelfAt w' b A l cap (asked + 1) := by
  have hlt := h.lt
  have hs : (w.setCell ⟨b, 1, none⟩ (.int .i64 (asked + 1))).heap.size = w.heap.size := by simp [World.setCell]
  refine ⟨?_, ?_, h.apart⟩
  · rw [hb.block b hlt]
    simp [World.setCell, Array.getElem?_modify, h.box]
  · refine ⟨h.rows.1, fun hn => ?_⟩
    obtain ⟨ad, e, hlt2, hc⟩ := h.rows.2 hn
    refine ⟨ad, e, by have := hb.size; omega, fun j u hu => ?_⟩
    rw [hb.cell (by rw [block_of_add]; omega), World.cell?_setCell_other]
    · exact hc j u hu
    · intro e3
      have : (ad.add j).block = b := by rw [← e3]
      rw [block_of_add] at this
      exact h.apart ad e this
theorem ask_below {w w' : World} {b B : Nat} {v : Value} (hb : Below w.heap.size (w.setCell ⟨b, 1, none⟩ v) w') (hB : B ≤ b) (hw : B ≤ w.heap.size) : Below B w w' :=
  ((Below.refl B w).setCell (p := ⟨b, 1, none⟩) hB v).trans (hb.mono hw)
/-- A view that was just built of one row. -/
theorem ShelfAt.one (w : World) (o : Op3) (t : TypeId) : ShelfAt ((w.alloc (.cells #[.string o.key, .string o.val, .bool o.gone] t)).alloc (.cells #[.slice (some ⟨w.heap.size, 0, none⟩) 1 1, .int .i64 0] 30)) (w.heap.size + 1) (some ⟨w.heap.size, 0, none⟩) [o] 1 0 := by
  refine ⟨?_, ⟨rfl, fun _ => ⟨_, rfl, by simp; omega, fun j u hu => ?_⟩⟩, fun ad e => ?_⟩
  · have := heap_alloc_new (w.alloc (.cells #[.string o.key, .string o.val, .bool o.gone] t)) (.cells #[.slice (some ⟨w.heap.size, 0, none⟩) 1 1, .int .i64 0] 30)
    simpa using this
  · have hj : j < 3 := by
      rcases Nat.lt_or_ge j 3 with h | h
      · exact h
      · rw [List.getElem?_eq_none (by simp [opsV, opV]; omega)] at hu; cases hu
    have hcell : ∀ i : Nat, (w.alloc (.cells #[.string o.key, .string o.val, .bool o.gone] t)).cell? ⟨w.heap.size, i, none⟩ = (#[Value.string o.key, .string o.val, .bool o.gone])[i]? := fun i => World.cell?_alloc_new _ _ _ _
    rw [World.cell?_alloc_lt _ _ _ (by rw [block_of_add]; simp)]
    match j, hj with
    | 0, _ => exact (hcell 0).trans hu
    | 1, _ => exact (hcell 1).trans hu
    | 2, _ => exact (hcell 2).trans hu
  · injection e with e
    subst e
    show w.heap.size ≠ w.heap.size + 1
    omega

def keepOp (c n : Nat) (a : List UInt8) : Op3 := ⟨bs (clientL c), bs (valueL n a), false⟩
theorem ask_hit (c n m : Nat) (a : List UInt8) (hn : n < 18446744073709551616) (ha : a.length ≤ 480) : askL [keepOp c n a] c m = if n < m then (⟨#[]⟩, false, 0) else if m < n then (⟨#[]⟩, false, 27) else (bs a, true, 0) := by
  have hg : getL [keepOp c n a] (bs (clientL c)) = (bs (valueL n a), true) := by simp [getL, keepOp]
  unfold askL
  rw [hg]
  simp only [Bool.true_eq_false, if_false]
  rw [bs_data, readClient_value n hn a ha]

set_option maxRecDepth 100000 in
set_option maxHeartbeats 4000000 in
theorem awake_any (w : World) :
    Calls Tryd.prog 10 #[] w fun e w' => e = .returned (.bool true) ∧ Below w.heap.size w w' := by
  have hsz : (getL [keepOp 9 5 [120]] (bs (clientL 9))).1.size ≤ 1073741824 := by
    have hg : getL [keepOp 9 5 [120]] (bs (clientL 9)) = (bs (valueL 5 [120]), true) := by simp [getL, keepOp]
    rw [hg, bs_size]
    have := valueL_len 5 [120] (by simp)
    omega
  have a1 : askL [keepOp 9 5 [120]] 9 5 = (bs [120], true, 0) := by rw [ask_hit _ _ _ _ (by omega) (by simp)]; rfl
  have a2 : askL [keepOp 9 5 [120]] 9 4 = (⟨#[]⟩, false, 27) := by rw [ask_hit _ _ _ _ (by omega) (by simp)]; rfl
  have a3 : askL [keepOp 9 5 [120]] 9 6 = (⟨#[]⟩, false, 0) := by rw [ask_hit _ _ _ _ (by omega) (by simp)]; rfl
  have ask : ∀ (n : Int) (r : ByteArray × Bool × Int) (b : Nat) (A : Option Addr) (asked : Int) (w : World), askL [keepOp 9 5 [120]] 9 n.toNat = r → ShelfAt w b A [keepOp 9 5 [120]] 1 asked → 0 ≤ asked → asked ≤ 100 → 0 ≤ n → n ≤ 100 → Calls Tryd.prog 9 #[.iface 22 (.pointer (some ⟨b, 0, none⟩)), .int .u8 9, .int .u64 n] w fun e w' => e = .returned (.tuple #[.string r.1, .bool r.2.1, .int .i64 r.2.2]) ∧ Below w.heap.size (w.setCell ⟨b, 1, none⟩ (.int .i64 (asked + 1))) w' := by
    intro n r b A asked w hr hs h0 h1 n0 n1
    subst hr
    exact Ask_any b A _ 1 asked 9 n w hs (by simp) h0 (by omega) (by omega) (by omega) n0 (by omega) hsz
  replace ask := Lib.hid ask
  replace a1 := Lib.hid a1
  replace a2 := Lib.hid a2
  replace a3 := Lib.hid a3
  clear hsz
  go_enter Tryd.func10, Tryd.ntmps10
  go_wp2_with fail
  refine (Keep_any 9 5 ⟨#[120]⟩ w (by omega) (by omega) (by omega) (by omega) (by simp [ByteArray.size])).mono ?_
  rintro e w1 ⟨rfl, hb1⟩
  go_wp2_with fail
  have hS := ShelfAt.one w1 (keepOp 9 5 [120]) 24
  refine (ask.out 5 _ _ _ 0 _ a1.out hS (by omega) (by omega) (by omega) (by omega)).mono ?_
  rintro e w2 ⟨rfl, hb2⟩
  have hS2 := hS.next hb2
  go_wp2_with fail
  refine (ask.out 4 _ _ _ 1 _ a2.out hS2 (by omega) (by omega) (by omega) (by omega)).mono ?_
  rintro e w3 ⟨rfl, hb3⟩
  have hS3 := hS2.next hb3
  go_wp2_with fail
  refine (ask.out 6 _ _ _ 2 _ a3.out hS3 (by omega) (by omega) (by omega) (by omega)).mono ?_
  rintro e w4 ⟨rfl, hb4⟩
  have hS4 := hS3.next hb4
  have c1 : w4.cell? ⟨w1.heap.size + 1, 1, none⟩ = some (.int .i64 3) := by simp [World.cell?, hS4.box]
  have e1 : (bs [120]).toList = [120] := by rw [ByteArray.toList_eq]; rfl
  have z1 := hb1.size
  have z2 := hS2.lt
  have z3 := hS3.lt
  have hB2 := ask_below (B := w.heap.size) hb2 (by omega) (by simp; omega)
  have hB3 := ask_below (B := w.heap.size) hb3 (by omega) (by omega)
  have hB4 := ask_below (B := w.heap.size) hb4 (by omega) (by omega)
  have hfin : Below w.heap.size w w4 := (((((hb1.alloc z1 _).alloc (by simp; omega) _).trans hB2).trans hB3).trans hB4)
  clear hB2 hB3 hB4 hb2 hb3 hb4 hS hS2 hS3 hS4
  go_wp2_with fail
  go_ret
  exact ⟨rfl, hfin⟩
end Go.Proofs.YtbaobjkhdieapaaDoor
