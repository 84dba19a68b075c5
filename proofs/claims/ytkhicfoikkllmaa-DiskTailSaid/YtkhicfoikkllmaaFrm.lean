/- What a call leaves as it was: all blocks but some. -/
import Derived.Test.YtkhicfoikkllmaaWords
import Derived.Test.YtkhicfoikkllmaaLine
namespace Go.Proofs.Ytkhicfoikkllmaa
open Go.RowKit
set_option linter.unusedVariables false
set_option linter.unusedSimpArgs false

/-- All blocks but some are as they were. -/
structure KeptBut (w w' : World) (S : Nat → Prop) : Prop where
  os : w'.os = w.os
  tape : w'.tape = w.tape
  output : w'.output = w.output
  size : w.heap.size ≤ w'.heap.size
  block : ∀ k, k < w.heap.size → ¬ S k → w'.heap[k]? = w.heap[k]?
theorem KeptBut.refl (w : World) (S : Nat → Prop) : KeptBut w w S := ⟨rfl, rfl, rfl, Nat.le_refl _, fun _ _ _ => rfl⟩
theorem KeptBut.drew {w w' : World} {S : Nat → Prop} (h : KeptBut w w' S) : KeptBut w w'.drew S := ⟨h.os, h.tape, h.output, h.size, h.block⟩
theorem KeptBut.below {w w' : World} {S : Nat → Prop} (h : KeptBut w w' S) {B : Nat} (hS : ∀ k, S k → B ≤ k) (hB : B ≤ w.heap.size) : Below B w w' :=
  ⟨h.os, h.tape, h.output, h.size, fun k hk => h.block k (by omega) (fun hs => by have := hS k hs; omega)⟩
theorem KeptBut.then_below {w w' w'' : World} {S : Nat → Prop} (h : KeptBut w w' S) (hb : Below w'.heap.size w' w'') : KeptBut w w'' S :=
  ⟨hb.os.trans h.os, hb.tape.trans h.tape, hb.output.trans h.output, Nat.le_trans h.size hb.size, fun k hk hs => (hb.block k (by have := h.size; omega)).trans (h.block k hk hs)⟩
theorem KeptBut.then_grown {w w' w'' : World} {S : Nat → Prop} (h : KeptBut w w' S) {row : Option Nat} (hg : w'.grownBy w'' row) (hr : ∀ k, row = some k → S k) : KeptBut w w'' S :=
  ⟨hg.os.trans h.os, hg.tape.trans h.tape, hg.output.trans h.output, Nat.le_trans h.size hg.size, fun k hk hs => (hg.block k (by have := h.size; omega) (fun e => hs (hr k e.symm))).trans (h.block k hk hs)⟩
theorem KeptBut.then_set {w w' : World} {S : Nat → Prop} (h : KeptBut w w' S) {b o : Nat} {v : Value} (hb : S b) : KeptBut w (w'.setCell ⟨b, o, none⟩ v) S :=
  ⟨h.os, h.tape, h.output, by simpa [World.setCell] using h.size, fun k hk hs => (Below.heap_setCell _ _ _ _ (fun e => hs (by rw [e]; exact hb))).trans (h.block k hk hs)⟩
theorem KeptBut.cell {w w' : World} {S : Nat → Prop} (h : KeptBut w w' S) (a : Addr) (ha : a.block < w.heap.size) (hs : ¬ S a.block) : w'.cell? a = w.cell? a := World.cell?_of_block (h.block a.block ha hs)
theorem KeptBut.reads {w w' : World} {S : Nat → Prop} (h : KeptBut w w' S) {m n : Nat} {A : Option Addr} {xs : List Value} (hr : Reads w w.heap.size m A n xs) (hs : ∀ ad, A = some ad → ¬ S ad.block) : Reads w' w'.heap.size m A n xs :=
  ⟨hr.1, fun hn => by
    obtain ⟨ad, e, hb, hc⟩ := hr.2 hn
    refine ⟨ad, e, by have := h.size; omega, fun j u hu => ?_⟩
    rw [h.cell _ (by rw [block_of_add]; exact hb) (by rw [block_of_add]; exact hs ad e)]
    exact hc j u hu⟩

theorem KeptBut.of_below {w w' : World} {S : Nat → Prop} (h : Below w.heap.size w w') : KeptBut w w' S := (KeptBut.refl w S).then_below h
theorem KeptBut.mono {w w' : World} {S S' : Nat → Prop} (h : KeptBut w w' S) (hS : ∀ k, k < w.heap.size → S k → S' k) : KeptBut w w' S' :=
  ⟨h.os, h.tape, h.output, h.size, fun k hk hs => h.block k hk (fun h' => hs (hS k hk h'))⟩
theorem KeptBut.trans {w w' w'' : World} {S S' : Nat → Prop} (h : KeptBut w w' S) (h' : KeptBut w' w'' S') (hS : ∀ k, k < w.heap.size → S' k → S k) : KeptBut w w'' S :=
  ⟨h'.os.trans h.os, h'.tape.trans h.tape, h'.output.trans h.output, Nat.le_trans h.size h'.size, fun k hk hs => (h'.block k (by have := h.size; omega) (fun e => hs (hS k hk e))).trans (h.block k hk hs)⟩
theorem Blk.keptB {w w' : World} {S : Nat → Prop} {g t : Nat} {cs : Array Value} (h : Blk w g t cs) (hk : KeptBut w w' S) (hs : ¬ S g) : Blk w' g t cs := (hk.block g h.lt hs).trans h
theorem own_lt {w : World} {B e size n : Nat} {v : Value} {xs : List Value} (h : w.ownsRow B e size v n xs) : ∀ k, v.ownBlock = some k → B ≤ k ∧ k < w.heap.size := World.ownsRow.lt h
theorem own_block {w w' : World} {B e size n : Nat} {v : Value} {xs : List Value} (h : w.ownsRow B e size v n xs) (hb : ∀ k, v.ownBlock = some k → w'.heap[k]? = w.heap[k]?) : w'.ownsRow B e size v n xs := by
  rcases h with ⟨h1, ⟨h2, h3⟩ | ⟨g, cap, cur, hv, ha, hh, rest⟩⟩
  · exact ⟨h1, .inl ⟨h2, h3⟩⟩
  · refine ⟨h1, .inr ⟨g, cap, cur, hv, ha, ?_, rest⟩⟩
    rw [hb g (by rw [hv]; rfl)]
    exact hh
theorem own_base {w : World} {B e size n : Nat} {v : Value} {xs : List Value} (h : w.ownsRow B e size v n xs) : w.ownsRow 0 e size v n xs :=
  ⟨h.1, h.2.imp id fun ⟨g, cap, cur, hv, _, rest⟩ => ⟨g, cap, cur, hv, Nat.zero_le _, rest⟩⟩
theorem own_kept {w w' : World} {S : Nat → Prop} {B e size n : Nat} {v : Value} {xs : List Value} (h : w.ownsRow B e size v n xs) (hk : KeptBut w w' S) (hs : ∀ k, v.ownBlock = some k → ¬ S k) : w'.ownsRow B e size v n xs :=
  own_block h fun k hk' => hk.block k (own_lt h k hk').2 (hs k hk')
theorem bcell {W w1 : World} (hb : Below W.heap.size W w1) : (∀ b o, b < W.heap.size → w1.cell? ⟨b, o, none⟩ = W.cell? ⟨b, o, none⟩) ∧ (∀ b o, b < W.heap.size → w1.frozen? ⟨b, o, none⟩ = W.frozen? ⟨b, o, none⟩) :=
  ⟨fun b o h => hb.cell (p := ⟨b, o, none⟩) h, fun b o h => hb.frozen (p := ⟨b, o, none⟩) h⟩

def bs (l : List UInt8) : ByteArray := ⟨l.toArray⟩
theorem bs_of (s : ByteArray) : bs s.data.toList = s := by unfold bs; cases s; simp
theorem bs_size (l : List UInt8) : (bs l).size = l.length := by simp [bs, ByteArray.size]
theorem bs_data (l : List UInt8) : (bs l).data.toList = l := by simp [bs]
theorem bs_toList (l : List UInt8) : (bs l).toList = l := by rw [ByteArray.toList_eq, bs_data]
theorem bs_append (a b : List UInt8) : bs a ++ bs b = bs (a ++ b) := by
  unfold bs
  apply ByteArray.ext
  simp
end Go.Proofs.Ytkhicfoikkllmaa
