/- table.Builder: Finish of a done or an empty builder. -/
import Derived.Test.YtfnlponoakhegaaDoorTFinJ
namespace Go.Proofs.YtfnlponoakhegaaDoor
open Go.RowKit
set_option linter.unusedVariables false
set_option linter.unusedSimpArgs false
set_option maxRecDepth 100000 in
set_option maxHeartbeats 1000000 in
theorem Fin_err {w : World} {g : Nat} {s : TB} {vb1 vs1 vb2 vs2 vk vp : Value} (hB : Blk w g 67 (tbC s vb1 vs1 vb2 vs2 vk vp)) (hd : s.done = true ∨ s.t.count = 0) :
    Calls Tryd.prog 9 #[.pointer (some ⟨g, 0, none⟩)] w fun r w' => r = .returned (.tuple #[.string ⟨#[]⟩, .agg (tiC ⟨0, 0, 0, 0, [], [], 0, 0⟩), .int .i64 9]) ∧ Below w.heap.size w w' := by
  have c2 : w.cell? ⟨g, 2, none⟩ = some (.int .i64 (s.t.count : Nat)) := hB.cell 2
  have hlt := hB.lt
  have hA : Below w.heap.size w (w.alloc (.cells (tiC ⟨0, 0, 0, 0, [], [], 0, 0⟩) 26)) := (Below.refl _ _).alloc (Nat.le_refl _) _
  have hR : Blk (w.alloc (.cells (tiC ⟨0, 0, 0, 0, [], [], 0, 0⟩) 26)) w.heap.size 26 (tiC ⟨0, 0, 0, 0, [], [], 0, 0⟩) := Blk.new _ _ _
  rcases hdn : s.done with _ | _
  · have hc0 : s.t.count = 0 := hd.resolve_left (by rw [hdn]; decide)
    have c20 : w.cell? ⟨g, 20, none⟩ = some (.bool false) := (hB.cell 20).trans (by simp [tbC, hdn])
    rw [hc0] at c2
    replace hdn := Lib.hid hdn
    replace hc0 := Lib.hid hc0
    clear hd
    go_enter Tryd.func9, Tryd.ntmps9
    go_wp2_with fail
    exact bodyPost_ret (v := .tuple #[.string ⟨#[]⟩, .agg (tiC ⟨0, 0, 0, 0, [], [], 0, 0⟩), .int .i64 9]) (results_tct rfl _ _ w.heap.size _ _ _ rfl rfl rfl (load_ti hR rfl)) rfl ⟨rfl, hA⟩
  · have c20 : w.cell? ⟨g, 20, none⟩ = some (.bool true) := (hB.cell 20).trans (by simp [tbC, hdn])
    replace hdn := Lib.hid hdn
    clear hd
    go_enter Tryd.func9, Tryd.ntmps9
    go_wp2_with fail
    exact bodyPost_ret (v := .tuple #[.string ⟨#[]⟩, .agg (tiC ⟨0, 0, 0, 0, [], [], 0, 0⟩), .int .i64 9]) (results_tct rfl _ _ w.heap.size _ _ _ rfl rfl rfl (load_ti hR rfl)) rfl ⟨rfl, hA⟩
end Go.Proofs.YtfnlponoakhegaaDoor
