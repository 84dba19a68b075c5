/- A disk in memory, as the plain data says. -/
import Derived.Test.YtkhicfoikkllmaaFrm
import Derived.Test.YtkhicfoikkllmaaMp
import Derived.Test.YtkhicfoikkllmaaOkS
namespace Go.Proofs.Ytkhicfoikkllmaa
open Go.RowKit
set_option linter.unusedVariables false
set_option linter.unusedSimpArgs false

/-- Where a disk's parts lie. -/
structure Lay where
  gN : Nat
  gL : Nat
  vC : Value
  blk : Nat → Nat
  row : Nat → Value
  dead : Nat → Prop
def chgV (g : Nat → Nat) (l : List Chg) : List Value := l.flatMap fun c => [.string (bs c.fr), .string (bs c.to), ptrV (c.f.map g)]
structure DskAt (w : World) (F : Nat → Prop) (d : Nat) (L : Lay) (s : Dsk) : Prop where
  box : Blk w d 56 #[.int .i64 s.room, .map (some L.gN), .map (some L.gL), L.vC, .bool s.off, .int .i64 s.fuse]
  names : MapAt Try.prog 9 w L.gN (mvM L.blk s.names)
  last : MapAt Try.prog 9 w L.gL (mvM L.blk s.last)
  chg : w.ownsRow 0 68 3 L.vC s.chg.length (chgV L.blk s.chg)
  file : ∀ i f, s.files[i]? = some f → ¬ L.dead i → Blk w (L.blk i) 65 #[L.row i, .int .i64 f.k] ∧ OwnB w 0 (L.row i) f.d
  inF : F d ∧ F L.gN ∧ F L.gL ∧ (∀ k, L.vC.ownBlock = some k → F k) ∧ ∀ i, i < s.files.length → ¬ L.dead i → F (L.blk i) ∧ ∀ k, (L.row i).ownBlock = some k → F k
  ne : L.gN ≠ L.gL
  inj : ∀ i j, i < s.files.length → j < s.files.length → ¬ L.dead i → ¬ L.dead j → L.blk i = L.blk j → i = j
  live : (∀ p ∈ s.names, ¬ L.dead p.2) ∧ (∀ p ∈ s.last, ¬ L.dead p.2) ∧ (∀ c ∈ s.chg, ∀ i, c.f = some i → ¬ L.dead i) ∧ ∀ i, L.dead i → i < s.files.length
  rows : ∀ i j k, i < s.files.length → j < s.files.length → ¬ L.dead i → ¬ L.dead j → (L.row i).ownBlock = some k → (L.row j).ownBlock = some k → i = j
section
variable {w w' : World} {F : Nat → Prop} {d : Nat} {L : Lay} {s : Dsk}
theorem DskAt.kept {S : Nat → Prop} (h : DskAt w F d L s) (hk : KeptBut w w' S) (hS : ∀ k, F k → ¬ S k) : DskAt w' F d L s := by
  obtain ⟨f1, f2, f3, f4, f5⟩ := h.inF
  refine ⟨h.box.keptB hk (hS _ f1), h.names.block (hk.block _ h.names.lt (hS _ f2)), h.last.block (hk.block _ h.last.lt (hS _ f3)), own_kept h.chg hk (fun k e => hS _ (f4 k e)), fun i f hi hd => ?_, h.inF, h.ne, h.inj, h.live, h.rows⟩
  have hi' := (List.getElem?_eq_some_iff.1 hi).1
  obtain ⟨a, b⟩ := h.file i f hi hd
  exact ⟨a.keptB hk (hS _ (f5 i hi' hd).1), own_kept b hk (fun k e => hS _ ((f5 i hi' hd).2 k e))⟩
theorem DskAt.below (h : DskAt w F d L s) (hb : Below w.heap.size w w') : DskAt w' F d L s := h.kept (S := fun _ => False) (KeptBut.of_below hb) (fun _ _ => id)
theorem DskAt.more {F' : Nat → Prop} (h : DskAt w F d L s) (hF : ∀ k, F k → F' k) : DskAt w F' d L s := by
  obtain ⟨f1, f2, f3, f4, f5⟩ := h.inF
  exact ⟨h.box, h.names, h.last, h.chg, h.file, ⟨hF _ f1, hF _ f2, hF _ f3, fun k e => hF _ (f4 k e), fun i hi hd => ⟨hF _ (f5 i hi hd).1, fun k e => hF _ ((f5 i hi hd).2 k e)⟩⟩, h.ne, h.inj, h.live, h.rows⟩
theorem DskAt.lt (h : DskAt w F d L s) : d < w.heap.size := h.box.lt
/-- Blocks of other kinds than the box. -/
theorem map_ne_blk {P : Program} {k g b t : Nat} {m : NM} {cs : Array Value} (h : MapAt P k w g m) (hb : Blk w b t cs) : g ≠ b := by
  rintro rfl
  obtain ⟨es, clock, h1, _⟩ := h
  unfold Blk at hb
  rw [hb] at h1
  cases h1
theorem own_ne_blk {B e size n b t : Nat} {v : Value} {xs : List Value} {cs : Array Value} (h : w.ownsRow B e size v n xs) (hb : Blk w b t cs) (ht : e ≠ t) : ∀ k, v.ownBlock = some k → k ≠ b := by
  rintro k hk rfl
  rcases h.2 with ⟨rfl, _⟩ | ⟨g', cap, cur, rfl, _, hh, _⟩
  · cases hk
  · simp only [Value.ownBlock, Option.some.injEq] at hk
    subst hk
    unfold Blk at hb
    rw [hb] at hh
    simp only [Option.some.injEq, Obj.cells.injEq] at hh
    exact ht hh.2.1.symm
theorem blk_ne_blk {b b' t t' : Nat} {cs cs' : Array Value} (h : Blk w b t cs) (hb : Blk w b' t' cs') (ht : t ≠ t') : b ≠ b' := by
  rintro rfl
  unfold Blk at h hb
  rw [hb] at h
  simp only [Option.some.injEq, Obj.cells.injEq] at h
  exact ht h.2.1.symm
/-- Only the box has turned. -/
theorem DskAt.rebox {s' : Dsk} (h : DskAt w F d L s) (hk : KeptBut w w' (fun k => k = d)) (hb : Blk w' d 56 #[.int .i64 s'.room, .map (some L.gN), .map (some L.gL), L.vC, .bool s'.off, .int .i64 s'.fuse])
    (h1 : s'.files = s.files) (h2 : s'.names = s.names) (h3 : s'.last = s.last) (h4 : s'.chg = s.chg) : DskAt w' F d L s' := by
  refine ⟨hb, ?_, ?_, ?_, fun i f hi hd => ?_, ?_, h.ne, ?_, ?_, ?_⟩
  · rw [h2]; exact h.names.block (hk.block _ h.names.lt (map_ne_blk h.names h.box))
  · rw [h3]; exact h.last.block (hk.block _ h.last.lt (map_ne_blk h.last h.box))
  · rw [h4]; exact own_kept h.chg hk (own_ne_blk h.chg h.box (by decide))
  · rw [h1] at hi
    obtain ⟨a, b⟩ := h.file i f hi hd
    exact ⟨a.keptB hk (blk_ne_blk a h.box (by decide)), own_kept b hk (own_ne_blk b h.box (by decide))⟩
  · rw [h1]; exact h.inF
  · rw [h1]; exact h.inj
  · rw [h1, h2, h3, h4]; exact h.live
  · rw [h1]; exact h.rows
end
theorem zero_file : ∀ w : World, (zeroValue 60).run Try.prog w = .ok (.pointer none) w := fun w => by kernel_rfl

set_option maxHeartbeats 400000 in
theorem none_any {w : World} {F : Nat → Prop} {d : Nat} {L : Lay} {s : Dsk} (h : DskAt w F d L s) :
    Calls Try.prog 31 #[.pointer (some ⟨d, 0, none⟩)] w fun e w' => e = .returned (.bool false) ∧ w = w' := by
  have c1 := h.box.cell 1
  have eN : ∀ w, (binOp .eql 53 (.map (some L.gN)) (.map none)).run Try.prog w = .ok (.bool false) w := fun w => run_eql_map_nil w _ _ _ _ Try.underlying53
  go_enter Try.func31, Try.ntmps31
  go_wp2
  go_ret
  exact ⟨rfl, rfl⟩
set_option maxHeartbeats 400000 in
theorem none_nil (w : World) : Calls Try.prog 31 #[.pointer none] w fun e w' => e = .returned (.bool true) ∧ w = w' := by
  go_enter Try.func31, Try.ntmps31
  go_wp2
  go_ret
  exact ⟨rfl, rfl⟩
set_option maxHeartbeats 400000 in
theorem power_any {w : World} {F : Nat → Prop} {d : Nat} {L : Lay} {s : Dsk} (h : DskAt w F d L s) :
    Calls Try.prog 34 #[.pointer (some ⟨d, 0, none⟩)] w fun e w' => e = .returned (.int .i64 (if s.off then 7 else 0)) ∧ w = w' := by
  have c4 := h.box.cell 4
  go_enter Try.func34, Try.ntmps34
  cases ho : s.off <;> rw [ho] at c4 <;> clear ho
  · go_wp2_with ((with_reducible refine (none_any h).mono ?_); rintro e w' ⟨rfl, rfl⟩)
    go_ret
    exact ⟨rfl, rfl⟩
  · go_wp2_with ((with_reducible refine (none_any h).mono ?_); rintro e w' ⟨rfl, rfl⟩)
    go_ret
    exact ⟨rfl, rfl⟩
end Go.Proofs.Ytkhicfoikkllmaa
