/- Rows of 256 cells; what Ask tells by the events. -/
import Derived.Test.YtbaobjkhdieapaaDoorOPlays
namespace Go.Proofs.YtbaobjkhdieapaaDoor
open Go.RowKit
set_option linter.unusedVariables false
set_option linter.unusedSimpArgs false

/-- A row of 256 cells. -/
def ArrAt (w : World) (g t : Nat) (f : Nat → Value) : Prop := ∃ cs, Blk w g t cs ∧ cs.size = 256 ∧ ∀ i, i < 256 → cs[i]? = some (f i)
theorem ArrAt.cell {w : World} {g t : Nat} {f : Nat → Value} (h : ArrAt w g t f) (i : Nat) (hi : i < 256) : w.cell? ⟨g, i, none⟩ = some (f i) := by
  obtain ⟨cs, hb, _, hc⟩ := h
  exact (hb.cell i).trans (hc i hi)
theorem ArrAt.frozen {w : World} {g t : Nat} {f : Nat → Value} (h : ArrAt w g t f) (i : Nat) : w.frozen? ⟨g, i, none⟩ = false := by
  obtain ⟨cs, hb, _, hc⟩ := h
  exact hb.frozen i
theorem ArrAt.lt {w : World} {g t : Nat} {f : Nat → Value} (h : ArrAt w g t f) : g < w.heap.size := by
  obtain ⟨cs, hb, _, hc⟩ := h
  exact hb.lt
theorem ArrAt.kept {w w' : World} {S : Nat → Prop} {g t : Nat} {f : Nat → Value} (h : ArrAt w g t f) (hk : KeptBut w w' S) (hs : ¬ S g) : ArrAt w' g t f := by
  obtain ⟨cs, hb, h1, hc⟩ := h
  exact ⟨cs, hb.kept hk hs, h1, hc⟩
theorem ArrAt.below {w w' : World} {g t : Nat} {f : Nat → Value} (h : ArrAt w g t f) (hb : Below w.heap.size w w') : ArrAt w' g t f := by
  obtain ⟨cs, h0, h1, hc⟩ := h
  exact ⟨cs, blk_below h0 hb, h1, hc⟩
theorem ArrAt.set {w : World} {g t : Nat} {f : Nat → Value} (h : ArrAt w g t f) (j : Nat) (v : Value) : ArrAt (w.setCell ⟨g, j, none⟩ v) g t (fun i => if i = j then v else f i) := by
  obtain ⟨cs, hb, h1, hc⟩ := h
  refine ⟨cs.setIfInBounds j v, ?_, by simpa using h1, fun i hi => ?_⟩
  · unfold Blk at *
    simp [World.setCell, Array.getElem?_modify, hb]
  · by_cases hij : i = j
    · subst hij
      rw [Array.getElem?_setIfInBounds_self_of_lt (by omega)]
      simp
    · rw [Array.getElem?_setIfInBounds_ne (fun e => hij e.symm), hc i hi]
      simp [hij]
theorem ArrAt.set_other {w : World} {g t b : Nat} {f : Nat → Value} (h : ArrAt w g t f) (hb : g ≠ b) (j : Nat) (v : Value) : ArrAt (w.setCell ⟨b, j, none⟩ v) g t f := by
  obtain ⟨cs, h0, h1, hc⟩ := h
  exact ⟨cs, (Below.heap_setCell _ _ _ _ hb).trans h0, h1, hc⟩
theorem zero46 : Tryd.zeroCells46 = Array.replicate 256 (.bool false) := by kernel_rfl
theorem zero47 : Tryd.zeroCells47 = Array.replicate 256 (.int .u64 0) := by kernel_rfl
theorem zero48 : Tryd.zeroCells48 = Array.replicate 256 (.string ⟨#[]⟩) := by kernel_rfl
theorem ArrAt.new {w : World} {t : Nat} {cs : Array Value} {v : Value} (h : cs = Array.replicate 256 v) : ArrAt (w.alloc (.cells cs t)) w.heap.size t (fun _ => v) := by
  subst h
  exact ⟨_, Blk.new _ _ _, by simp, fun i hi => by simp [hi]⟩
theorem row_ne {w : World} {B e n g t : Nat} {v : Value} {xs : List Value} {cs : Array Value} (h : w.ownsRow B e 3 v n xs) (hg : Blk w g t cs) (ht : t ≠ e) : v.ownBlock ≠ some g := by
  rcases h.2 with ⟨rfl, _⟩ | ⟨g', cap, cur, rfl, _, hh, _⟩
  · simp [Value.ownBlock]
  · intro e2
    simp only [Value.ownBlock, Option.some.injEq] at e2
    subst e2
    unfold Blk at hg
    rw [hg] at hh
    simp only [Option.some.injEq, Obj.cells.injEq] at hh
    exact ht hh.2.1
/-- What the three arrays say of the events. -/
def isV (E : List Ev) (c : Nat) : Value := .bool (lastEv E c).isSome
def nV (E : List Ev) (c : Nat) : Value := .int .u64 ((match lastEv E c with | none => 0 | some e => e.n : Nat) : Int)
def aV (E : List Ev) (c : Nat) : Value := .string (match lastEv E c with | none => ⟨#[]⟩ | some e => bs e.a)
theorem lastEv_at (E : List Ev) (e : Ev) (c : Nat) : lastEv (E ++ [e]) c = if c = e.c then some e else lastEv E c := by
  rw [lastEv_snoc]
  by_cases h : e.c = c
  · rw [if_pos h, if_pos h.symm]
  · rw [if_neg h, if_neg (fun e => h e.symm)]
/-- What Ask tells, by the events. -/
theorem ask_ev (E : List Ev) (c n : Nat) (hc : c ≤ 255) (hE : ∀ e ∈ E, e.Ok) : askL (evOps E) c n = match lastEv E c with
    | none => (⟨#[]⟩, false, 0)
    | some e => if e.n < n then (⟨#[]⟩, false, 0) else if n < e.n then (⟨#[]⟩, false, 27) else (bs e.a, true, 0) := by
  unfold askL
  rw [getL_ev E c hc hE]
  cases h : lastEv E c with
  | none => simp
  | some e =>
    have ok := hE e (lastEv_mem E c e h).1
    simp only [Bool.true_eq_false, if_false, bs_data]
    rw [readClient_value e.n ok.n e.a ok.a]

end Go.Proofs.YtbaobjkhdieapaaDoor
