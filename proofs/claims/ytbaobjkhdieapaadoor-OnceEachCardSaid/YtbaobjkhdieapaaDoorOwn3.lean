/- A view whose rows the law owns; what is kept; the events of the law, and what both sides tell of them. -/
import Derived.Test.YtbaobjkhdieapaaDoorGrt
namespace Go.Proofs.YtbaobjkhdieapaaDoor
open Go.RowKit
set_option linter.unusedVariables false
set_option linter.unusedSimpArgs false

/-- All blocks but some are as they were. -/
structure KeptBut (w w' : World) (S : Nat → Prop) : Prop where
  os : w'.os = w.os
  tape : w'.tape = w.tape
  output : w'.output = w.output
  size : w.heap.size ≤ w'.heap.size
  block : ∀ k, k < w.heap.size → ¬ S k → w'.heap[k]? = w.heap[k]?
theorem KeptBut.refl (w : World) (S : Nat → Prop) : KeptBut w w S := ⟨rfl, rfl, rfl, Nat.le_refl _, fun _ _ _ => rfl⟩
theorem KeptBut.drew {w w' : World} {S : Nat → Prop} (h : KeptBut w w' S) : KeptBut w w'.drew S := ⟨h.os, h.tape, h.output, h.size, h.block⟩
theorem KeptBut.below {w w' : World} {S : Nat → Prop} (h : KeptBut w w' S) {B : Nat} (hS : ∀ k, S k → B ≤ k) (hB : B ≤ w.heap.size) : Below B w w' :=
  ⟨h.os, h.tape, h.output, h.size, fun k hk => h.block k (by omega) (fun hs => by have := hS k hs; omega)⟩
theorem KeptBut.then_below {w w' w'' : World} {S : Nat → Prop} (h : KeptBut w w' S) (hb : Below w'.heap.size w' w'') : KeptBut w w'' S :=
  ⟨hb.os.trans h.os, hb.tape.trans h.tape, hb.output.trans h.output, Nat.le_trans h.size hb.size, fun k hk hs => (hb.block k (by have := h.size; omega)).trans (h.block k hk hs)⟩
theorem KeptBut.then_grown {w w' w'' : World} {S : Nat → Prop} (h : KeptBut w w' S) {row : Option Nat} (hg : w'.grownBy w'' row) (hr : ∀ k, row = some k → S k) : KeptBut w w'' S :=
  ⟨hg.os.trans h.os, hg.tape.trans h.tape, hg.output.trans h.output, Nat.le_trans h.size hg.size, fun k hk hs => (hg.block k (by have := h.size; omega) (fun e => hs (hr k e.symm))).trans (h.block k hk hs)⟩
theorem KeptBut.then_set {w w' : World} {S : Nat → Prop} (h : KeptBut w w' S) {b o : Nat} {v : Value} (hb : S b) : KeptBut w (w'.setCell ⟨b, o, none⟩ v) S :=
  ⟨h.os, h.tape, h.output, by simpa [World.setCell] using h.size, fun k hk hs => (Below.heap_setCell _ _ _ _ (fun e => hs (by rw [e]; exact hb))).trans (h.block k hk hs)⟩
theorem KeptBut.cell {w w' : World} {S : Nat → Prop} (h : KeptBut w w' S) (a : Addr) (ha : a.block < w.heap.size) (hs : ¬ S a.block) : w'.cell? a = w.cell? a := World.cell?_of_block (h.block a.block ha hs)
theorem KeptBut.reads {w w' : World} {S : Nat → Prop} (h : KeptBut w w' S) {m n : Nat} {A : Option Addr} {xs : List Value} (hr : Reads w w.heap.size m A n xs) (hs : ∀ ad, A = some ad → ¬ S ad.block) : Reads w' w'.heap.size m A n xs :=
  ⟨hr.1, fun hn => by
    obtain ⟨ad, e, hb, hc⟩ := hr.2 hn
    refine ⟨ad, e, by have := h.size; omega, fun j u hu => ?_⟩
    rw [h.cell _ (by rw [block_of_add]; exact hb) (by rw [block_of_add]; exact hs ad e)]
    exact hc j u hu⟩

/-- A view whose rows are the law's own. -/
structure ShelfOwn (w : World) (B b : Nat) (v : Value) (l : List Op3) (asked : Int) : Prop where
  box : w.heap[b]? = some (.cells #[v, .int .i64 asked] 30 (0, 0))
  own : w.ownsRow B 24 3 v l.length (opsV l)
  apart : v.ownBlock ≠ some b
  hB : B ≤ b
theorem ShelfOwn.shelf {w : World} {B b : Nat} {v : Value} {l : List Op3} {asked : Int} (h : ShelfOwn w B b v l asked) : ∃ A cap, v = .slice A l.length cap ∧ ShelfAt w b A l cap asked := by
  rcases h.own.2 with ⟨hv, h0⟩ | ⟨g, cap, cur, hv, hr⟩
  · have hl : l = [] := List.length_eq_zero_iff.1 h0
    subst hl
    subst hv
    exact ⟨none, 0, rfl, h.box, Reads.none_, fun ad e => by cases e⟩
  · subst hv
    refine ⟨_, cap, rfl, h.box, Reads.of_own h.own, fun ad e => ?_⟩
    injection e with e
    subst e
    intro e2
    exact h.apart (by simp [Value.ownBlock]; exact e2)
theorem own3_below {w w' : World} {B : Nat} {e : TypeId} {v : Value} {n : Nat} {xs : List Value} (h : w.ownsRow B e 3 v n xs) (hb : ∀ k, v.ownBlock = some k → w'.heap[k]? = w.heap[k]?) : w'.ownsRow B e 3 v n xs := by
  refine ⟨h.1, h.2.imp id ?_⟩
  rintro ⟨g, cap, cur, hv, h1, hg, rest⟩
  refine ⟨g, cap, cur, hv, h1, ?_, rest⟩
  rw [hb g (by rw [hv]; rfl)]
  exact hg
theorem ShelfOwn.lt {w : World} {B b : Nat} {v : Value} {l : List Op3} {asked : Int} (h : ShelfOwn w B b v l asked) : b < w.heap.size := by
  obtain ⟨A, cap, _, hs⟩ := h.shelf
  exact hs.lt
theorem ShelfOwn.row_lt {w : World} {B b : Nat} {v : Value} {l : List Op3} {asked : Int} (h : ShelfOwn w B b v l asked) : ∀ k, v.ownBlock = some k → B ≤ k ∧ k < w.heap.size := World.ownsRow.lt h.own
theorem ShelfOwn.next {w w' : World} {B b : Nat} {v : Value} {l : List Op3} {asked : Int} (h : ShelfOwn w B b v l asked) (hb : Below w.heap.size (w.setCell ⟨b, 1, none⟩ (.int .i64 (asked + 1))) w') : ShelfOwn w' B b v l (asked + 1) := by
  obtain ⟨A, cap, _, hs⟩ := h.shelf
  refine ⟨?_, own3_below h.own fun k hk => ?_, h.apart, h.hB⟩
  · rw [hb.block b h.lt]
    simp [World.setCell, Array.getElem?_modify, h.box]
  · rw [hb.block k (h.row_lt k hk).2, Below.heap_setCell _ _ _ _ (fun e => h.apart (by rw [hk, e]))]
theorem ShelfOwn.below {w w' : World} {B b : Nat} {v : Value} {l : List Op3} {asked : Int} (h : ShelfOwn w B b v l asked) (hb : Below w.heap.size w w') : ShelfOwn w' B b v l asked :=
  ⟨(hb.block b h.lt).trans h.box, own3_below h.own fun k hk => hb.block k (h.row_lt k hk).2, h.apart, h.hB⟩
theorem ShelfOwn.new (w : World) (B : Nat) (hB : B ≤ w.heap.size) : ShelfOwn (w.alloc (.cells #[.slice none 0 0, .int .i64 0] 30)) B w.heap.size (.slice none 0 0) [] 0 :=
  ⟨heap_alloc_new w _, World.ownsRow_nil _ _ _ 3, by simp [Value.ownBlock], hB⟩

theorem opsV_append (a b : List Op3) : opsV (a ++ b) = opsV a ++ opsV b := by simp [opsV]
theorem opsV_one (o : Op3) : opsV [o] = [.string o.key, .string o.val, .bool o.gone] := by simp [opsV, opV]
theorem op_info : (Tryd.prog.info? 24).map (fun i => (i.zero, i.size, i.bytes)) = some (some (.agg #[.string ⟨#[]⟩, .string ⟨#[]⟩, .bool false]), 3, 40) := by kernel_rfl

/-- What the region 's.Ops = append(s.Ops, o)' keeps, operation by operation (ia: the append, is: the store). -/
structure AJ (ia is : Nat) (w : World) (B b : Nat) (v0 : Value) (l : List Op3) (o : Op3) (asked : Int) (d : Nat → Bool) (wx : World) : Prop where
  kept : KeptBut w wx (fun k => k = b ∨ v0.ownBlock = some k)
  before : d is = false → wx.heap[b]? = w.heap[b]?
  row : d ia = false → wx.ownsRow B 24 3 v0 l.length (opsV l)
  after : d is = true → ∃ v', ShelfOwn wx B b v' (l ++ [o]) asked
theorem AJ.other {ia is : Nat} {w : World} {B b : Nat} {v0 : Value} {l : List Op3} {o : Op3} {asked : Int} {d : Nat → Bool} {wx : World} (h : AJ ia is w B b v0 l o asked d wx) (i : Nat) (h1 : ia ≠ i) (h2 : is ≠ i) : AJ ia is w B b v0 l o asked (setD d i) wx :=
  ⟨h.kept, by unfold setD; rw [if_neg h2]; exact h.before, by unfold setD; rw [if_neg h1]; exact h.row, by unfold setD; rw [if_neg h2]; exact h.after⟩
def NewRow (w : World) (xs : List Value) (v : Value) (wx : World) : Prop := ∃ g, v = .slice (some ⟨g, 0, none⟩) 1 1 ∧ w.heap.size ≤ g ∧ g < wx.heap.size ∧ Reads wx (g + 1) 3 (some ⟨g, 0, none⟩) 1 xs
def GotRow (B b : Nat) (l : List Op3) (v : Value) (wx : World) : Prop := wx.ownsRow B 24 3 v l.length (opsV l) ∧ v.ownBlock ≠ some b
end Go.Proofs.YtbaobjkhdieapaaDoor
