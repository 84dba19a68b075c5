/- Contracts: changed. -/
import Derived.Test.YtkhicfoikkllmaaOp1
namespace Go.Proofs.Ytkhicfoikkllmaa
open Go.RowKit
set_option linter.unusedVariables false
set_option linter.unusedSimpArgs false
def Fx (F : Nat → Prop) (w w' : World) : Nat → Prop := fun k => F k ∨ (w.heap.size ≤ k ∧ k < w'.heap.size)
/-- What an operation leaves: another disk in its place, and all else as it was. -/
structure Went (w w' : World) (F : Nat → Prop) (d : Nat) (s' : Dsk) : Prop where
  kept : KeptBut w w' F
  at_ : ∃ L', DskAt w' (Fx F w w') d L' s'
section
variable {w w' : World} {F : Nat → Prop} {d : Nat} {L : Lay} {s : Dsk}
theorem own_ne_map {P : Program} {k g B e size n : Nat} {v : Value} {xs : List Value} {m : NM} (h : w.ownsRow B e size v n xs) (hm : MapAt P k w g m) : ∀ j, v.ownBlock = some j → j ≠ g := by
  rintro j hj rfl
  rcases h.2 with ⟨rfl, _⟩ | ⟨g', cap, cur, rfl, _, hh, _⟩
  · cases hj
  · simp only [Value.ownBlock, Option.some.injEq] at hj
    subst hj
    obtain ⟨es, clock, h1, _⟩ := hm
    rw [h1] at hh
    cases hh
theorem own_ne_own {B e size n B' e' size' n' : Nat} {v v' : Value} {xs xs' : List Value} (h : w.ownsRow B e size v n xs) (h' : w.ownsRow B' e' size' v' n' xs') (he : e ≠ e') : ∀ j, v.ownBlock = some j → v'.ownBlock ≠ some j := by
  intro j hj hj'
  rcases h'.2 with ⟨rfl, _⟩ | ⟨g', cap, cur, rfl, _, hh, _⟩
  · cases hj'
  · simp only [Value.ownBlock, Option.some.injEq] at hj'
    subst hj'
    exact own_ne_blk h (show Blk w _ _ _ from hh) he _ hj rfl
theorem DskAt.renames (h : DskAt w F d L s) (hk : KeptBut w w' (fun k => k = L.gN)) {m : NM} (hm : MapAt Try.prog 9 w' L.gN (mvM L.blk m)) (hlv : ∀ p ∈ m, ¬ L.dead p.2) : DskAt w' F d L { s with names := m } := by
  refine ⟨h.box.keptB hk (fun e => map_ne_blk h.names h.box e.symm), hm, h.last.block (hk.block _ h.last.lt (fun e => h.ne e.symm)), own_kept h.chg hk (fun k e => own_ne_map h.chg h.names k e), fun i f hi hd => ?_, h.inF, h.ne, h.inj, ⟨hlv, h.live.2⟩, h.rows⟩
  obtain ⟨a, b⟩ := h.file i f hi hd
  exact ⟨a.keptB hk (fun e => map_ne_blk h.names a e.symm), own_kept b hk (fun k e => own_ne_map b h.names k e)⟩
theorem chgV_snoc (g : Nat → Nat) (l : List Chg) (c : Chg) : chgV g (l ++ [c]) = chgV g l ++ [.string (bs c.fr), .string (bs c.to), ptrV (c.f.map g)] := by simp [chgV]
/-- A change more: the row has grown, the box has the new one. -/
theorem DskAt.rechg (h : DskAt w F d L s) {ob : Obj} {w2 : World} {v2 : Value} {c : Chg}
    (hown : w2.ownsRow 0 68 3 v2 (s.chg.length + 1) (chgV L.blk s.chg ++ [.string (bs c.fr), .string (bs c.to), ptrV (c.f.map L.blk)])) (hg : (w.alloc ob).grownBy w2 L.vC.ownBlock)
    (hat : v2.ownBlock = L.vC.ownBlock ∨ v2.ownBlock = some (w.heap.size + 1)) (hlv : ∀ i, c.f = some i → ¬ L.dead i) :
    DskAt (w2.setCell ⟨d, 3, none⟩ v2) (Fx F w w2) d { L with vC := v2 } { s with chg := s.chg ++ [c] } ∧ KeptBut w (w2.setCell ⟨d, 3, none⟩ v2) F ∧ w2.cell? ⟨d, 3, none⟩ = some L.vC ∧ w2.frozen? ⟨d, 3, none⟩ = false ∧ ∃ A n c, v2 = .slice A n c := by
  obtain ⟨f1, f2, f3, f4, f5⟩ := h.inF
  have hdl := h.lt
  have hk2 : KeptBut w w2 (fun k => L.vC.ownBlock = some k) := (KeptBut.of_below ((Below.refl _ _).alloc (Nat.le_refl _) ob)).then_grown hg (fun k e => e)
  have hbox2 := h.box.keptB hk2 (fun e => own_ne_blk h.chg h.box (by decide) _ e rfl)
  have hne : ∀ k, v2.ownBlock = some k → k ≠ d := by
    intro k hk
    rcases hat with e | e
    · rw [e] at hk; exact own_ne_blk h.chg h.box (by decide) _ hk
    · rw [e] at hk; injection hk with hk; omega
  have hkB : KeptBut w (w2.setCell ⟨d, 3, none⟩ v2) (fun k => L.vC.ownBlock = some k ∨ k = d) := (hk2.mono (fun k _ e => .inl e)).then_set (.inr rfl)
  have hs2 := hk2.size
  refine ⟨⟨?_, ?_, ?_, ?_, fun i f hi hd => ?_, ?_, h.ne, h.inj, ⟨h.live.1, h.live.2.1, (fun x hx i hi => by
    rcases List.mem_append.1 hx with h1 | h1
    · exact h.live.2.2.1 x h1 i hi
    · rw [List.mem_singleton.1 h1] at hi; exact hlv i hi), h.live.2.2.2⟩, h.rows⟩, hkB.mono (fun k _ e => e.elim (f4 k) (fun e => e ▸ f1)), ?_, ?_, ?_⟩
  · simpa using hbox2.set_ 3 v2
  · exact h.names.block (hkB.block _ h.names.lt (fun e => e.elim (fun e => own_ne_map h.chg h.names _ e rfl) (map_ne_blk h.names h.box)))
  · exact h.last.block (hkB.block _ h.last.lt (fun e => e.elim (fun e => own_ne_map h.chg h.last _ e rfl) (map_ne_blk h.last h.box)))
  · rw [chgV_snoc]
    simp only [List.length_append, List.length_singleton]
    exact own_block hown fun k hk => Below.heap_setCell _ _ _ _ (hne k hk)
  · obtain ⟨a, b⟩ := h.file i f hi hd
    exact ⟨a.keptB hkB (fun e => e.elim (fun e => own_ne_blk h.chg a (by decide) _ e rfl) (blk_ne_blk a h.box (by decide))), own_kept b hkB (fun k hk e => e.elim (fun e => own_ne_own b h.chg (by decide) k hk e) (own_ne_blk b h.box (by decide) k hk))⟩
  · refine ⟨.inl f1, .inl f2, .inl f3, fun k hk => ?_, fun i hi hd => ⟨.inl (f5 i hi hd).1, fun k e => .inl ((f5 i hi hd).2 k e)⟩⟩
    rcases hat with e | e
    · simp only [e] at hk; exact .inl (f4 k hk)
    · have h1 := (own_lt hown k hk).2
      simp only [e] at hk
      injection hk with hk
      exact .inr ⟨by omega, h1⟩
  · simpa using hbox2.cell 3
  · exact hbox2.frozen 3
  · rcases hown.2 with ⟨hv, _⟩ | ⟨g, cap, cur, hv, _⟩
    · exact ⟨_, _, _, hv⟩
    · exact ⟨_, _, _, hv⟩
theorem chg_info : (Try.prog.info? 68).map (fun i => (i.zero, i.size, i.bytes)) = some (some (.agg #[.string ⟨#[]⟩, .string ⟨#[]⟩, .pointer none]), 3, 40) := by kernel_rfl
theorem reads3' (w : World) (t : TypeId) (x y z : Value) : Reads (w.alloc (.cells #[x, y, z] t)) (w.heap.size + 1) 3 (some ⟨w.heap.size, 0, none⟩) 1 [x, y, z] :=
  ⟨rfl, fun _ => ⟨_, rfl, by simp, fun j u hu => by
    have hj : j < 3 := (List.getElem?_eq_some_iff.1 hu).1
    match j, hj with
    | 0, _ => simp at hu; subst hu; simp [Addr.add]
    | 1, _ => simp at hu; subst hu; simp [Addr.add]
    | 2, _ => simp at hu; subst hu; simp [Addr.add]⟩⟩
end
end Go.Proofs.Ytkhicfoikkllmaa
