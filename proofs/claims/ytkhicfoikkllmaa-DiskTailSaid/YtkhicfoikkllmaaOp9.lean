/- Contracts: maps.Clone, New, DirSync. -/
import Derived.Test.YtkhicfoikkllmaaOp8
import Derived.Shelf.SlMaps.Clone
namespace Go.Proofs.Ytkhicfoikkllmaa
open Go.RowKit
set_option linter.unusedVariables false
set_option linter.unusedSimpArgs false
set_option maxRecDepth 100000 in
set_option maxHeartbeats 1000000 in
theorem Clone_any {w : World} {g : Nat} {m : NM} (h : MapAt Try.prog 9 w g m) :
    Calls Try.prog 35 #[.map (some g)] w fun e w' => e = .returned (.map (some w.heap.size)) ∧ MapAt Try.prog 9 w' w.heap.size m ∧ Below w.heap.size w w' ∧ w.heap.size < w'.heap.size := by
  obtain ⟨es, clock, hb, F, hs, hD⟩ := h
  have hq := fun w => run_eql_map_nil (P := Try.prog) w 53 _ _ (some g) Try.underlying53
  have hB : Below w.heap.size w (w.alloc (.map es clock)) := (Below.refl _ w).alloc (Nat.le_refl _) _
  have hM : MapAt Try.prog 9 (w.alloc (.map es clock)) w.heap.size m := ⟨es, clock, (MapKept.heap_alloc w _).1, F, hs, hD⟩
  have hlt : w.heap.size < (w.alloc (.map es clock)).heap.size := by simp
  replace hM := Lib.hid hM
  replace hD := Lib.hid hD
  replace hlt := Lib.hid hlt
  go_enter Try.func35, Try.ntmps35
  go_wp2
  rw [run_callFunc_extern Try.func48 (by kernel_rfl) (by kernel_rfl) (by kernel_rfl) (e := Extern.MapsClone.clone) (by kernel_rfl), run_maps_clone_sl w 53 hb]
  simp only [Result.andThen]
  rw [Oper.upon_value]
  go_wp2
  rw [run_typeAssert_map_sl _ 53 _ _ _ _ Try.underlying53]
  simp only [Result.andThen]
  rw [Oper.upon_value]
  go_wp2
  go_ret
  exact ⟨rfl, hM.out, hB, hlt.out⟩
theorem new_at (w : World) (r q : Int) (h : q = min (max r 0) 1048576) :
    DskAt (((w.alloc (.map #[] 0)).alloc (.map #[] 0)).alloc (.cells #[.int .i64 q, .map (some w.heap.size), .map (some (w.heap.size + 1)), .slice none 0 0, .bool false, .int .i64 0] 56))
      (fun k => w.heap.size ≤ k ∧ k < w.heap.size + 1 + 1 + 1) (w.heap.size + 1 + 1) ⟨w.heap.size, w.heap.size + 1, .slice none 0 0, fun _ => 0, fun _ => .slice none 0 0, fun _ => False⟩ (Dsk.new r) := by
  have hq : (((Dsk.new r).room : Nat) : Int) = q := by unfold Dsk.new; simp only []; omega
  refine ⟨?_, ?_, ?_, World.ownsRow_nil _ _ _ _, fun i f hi => by simp [Dsk.new] at hi, ⟨⟨by omega, by omega⟩, ⟨by simp, by simp; omega⟩, ⟨by simp, by simp⟩, (fun k e => (by cases e)), (fun i hi => (by simp [Dsk.new] at hi))⟩, by simp, fun i j hi => by simp [Dsk.new] at hi, ⟨fun _ _ => id, fun _ _ => id, fun _ _ _ _ => id, fun _ h => h.elim⟩, fun i j k hi => by simp [Dsk.new] at hi⟩
  · rw [hq]
    have := Blk.new ((w.alloc (.map #[] 0)).alloc (.map #[] 0)) 56 #[.int .i64 q, .map (some w.heap.size), .map (some (w.heap.size + 1)), .slice none 0 0, .bool false, .int .i64 0]
    simpa [Dsk.new] using this
  · have h0 : MapAt Try.prog 9 (w.alloc (.map #[] 0)) w.heap.size [] := MapAt.new w
    have h1 := h0.block (Below.heap_alloc (w.alloc (.map #[] 0)) (.map #[] 0) _ (by simp))
    exact h1.block (Below.heap_alloc _ _ _ (by simp; omega))
  · have h0 : MapAt Try.prog 9 ((w.alloc (.map #[] 0)).alloc (.map #[] 0)) (w.alloc (.map #[] 0)).heap.size [] := MapAt.new _
    have h1 := h0.block (Below.heap_alloc _ (.cells #[.int .i64 q, .map (some w.heap.size), .map (some (w.heap.size + 1)), .slice none 0 0, .bool false, .int .i64 0] 56) _ (by simp))
    simpa [Dsk.new, mvM] using h1
theorem new_fin (w : World) (r q : Int) (h : q = min (max r 0) 1048576) (w' : World)
    (hw : w' = ((w.alloc (.map #[] 0)).alloc (.map #[] 0)).alloc (.cells #[.int .i64 q, .map (some w.heap.size), .map (some (w.heap.size + 1)), .slice none 0 0, .bool false, .int .i64 0] 56)) :
    (∃ L, DskAt w' (fun k => w.heap.size ≤ k ∧ k < w'.heap.size) (w.heap.size + 1 + 1) L (Dsk.new r)) ∧ Below w.heap.size w w' := by
  subst hw
  refine ⟨⟨_, (new_at w r q h).more (fun k hk => ⟨hk.1, by simp; omega⟩)⟩, (((Below.refl _ w).alloc (Nat.le_refl _) _).alloc (by simp) _).alloc (by simp; omega) _⟩
set_option maxRecDepth 100000 in
set_option maxHeartbeats 1000000 in
theorem New_any (r : Int) (w : World) :
    Calls Try.prog 11 #[.int .i64 r] w fun e w' => ∃ d, e = .returned (.pointer (some ⟨d, 0, none⟩)) ∧ (∃ L, DskAt w' (fun k => w.heap.size ≤ k ∧ k < w'.heap.size) d L (Dsk.new r)) ∧ Below w.heap.size w w' := by
  have hmm := @run_makeMap Try.prog
  go_enter Try.func11, Try.ntmps11
  go_wp2
  all_goals go_ret
  all_goals refine ⟨w.heap.size + 1 + 1, rfl, ?_⟩
  all_goals refine new_fin w r _ ?_ _ rfl
  all_goals omega
end Go.Proofs.Ytkhicfoikkllmaa
