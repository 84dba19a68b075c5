/- DiskTail: a disk and two twins; what is called. -/
import Derived.Test.YtkhicfoikkllmaaDFuW
import Derived.Test.YtkhicfoikkllmaaDTlS
namespace Go.Proofs.Ytkhicfoikkllmaa
open Go.RowKit
set_option linter.unusedVariables false
set_option linter.unusedSimpArgs false
section
variable {B : Nat} {w : World} {a b t : Nat} {sa sb st : Dsk} {m C : Nat}
theorem Three.swap (h : Three B w a b t sa sb st) : Three B w b a t sb sa st := by
  obtain ⟨Fa, Fb, Ft, La, Lb, Lt, h1, h2, h3, h4, h5, h6⟩ := h.ex
  exact ⟨Fb, Fa, Ft, Lb, La, Lt, h2, h1, h3, fun k hk => ⟨(h5 k hk).1, (h5 k hk).2.1, fun e => (h4 k e).2.2.1 hk, (h5 k hk).2.2⟩, fun k hk => ⟨(h4 k hk).1, (h4 k hk).2.1, (h4 k hk).2.2.2⟩, h6⟩
theorem Three.below (h : Three B w a b t sa sb st) {w' : World} (hb : Below w.heap.size w w') : Three B w' a b t sa sb st := by
  obtain ⟨Fa, Fb, Ft, La, Lb, Lt, h1, h2, h3, h4, h5, h6⟩ := h.ex
  have hz := hb.size
  exact ⟨Fa, Fb, Ft, La, Lb, Lt, h1.below hb, h2.below hb, h3.below hb, fun k hk => ⟨(h4 k hk).1, by have := (h4 k hk).2.1; omega, (h4 k hk).2.2⟩, fun k hk => ⟨(h5 k hk).1, by have := (h5 k hk).2.1; omega, (h5 k hk).2.2⟩, fun k hk => ⟨(h6 k hk).1, by have := (h6 k hk).2; omega⟩⟩
theorem Three.crash (h : Three B w a b t sa sb st) (hB : B ≤ w.heap.size) (g : sa.Good m) (hm : m ≤ 536870912) (c : Cra) (KA PA : Option Addr) (kc pc : Nat) (hc : CraAt w c KA PA) (hA : ∀ ad, (c.keep ≠ [] ∧ KA = some ad) ∨ (c.spoil ≠ [] ∧ PA = some ad) → ad.block < B) :
    Calls Try.prog 19 #[.pointer (some ⟨a, 0, none⟩), craV c KA kc PA pc] w fun e w' => e = .returned (.tuple #[]) ∧ Three B w' a b t (sa.crash c) sb st ∧ Below B w w' := by
  obtain ⟨Fa, Fb, Ft, La, Lb, Lt, h1, h2, h3, h4, h5, h6⟩ := h.ex
  refine (Crash_any h1 g.ok (by have := g.load; omega) c KA PA kc pc hc (fun ad e hk => by have := hA ad e; have := (h4 _ hk).1; omega)).mono ?_
  rintro e w' ⟨rfl, hw⟩
  obtain ⟨L2, hL2⟩ := hw.at_
  have hz := hw.kept.size
  refine ⟨rfl, ⟨_, Fb, Ft, L2, Lb, Lt, hL2, h2.kept hw.kept (fun k hk e => (h4 k e).2.2.1 hk), h3.kept hw.kept (fun k hk e => (h4 k e).2.2.2 hk), fun k hk => ?_, fun k hk => ⟨(h5 k hk).1, by have := (h5 k hk).2.1; omega, (h5 k hk).2.2⟩, fun k hk => ⟨(h6 k hk).1, by have := (h6 k hk).2; omega⟩⟩, hw.kept.below (fun k e => (h4 k e).1) hB⟩
  rcases hk with hk | hk
  · exact ⟨(h4 k hk).1, by have := (h4 k hk).2.1; omega, (h4 k hk).2.2⟩
  · exact ⟨by omega, by omega, fun e => by have := (h5 k e).2.1; omega, fun e => by have := (h6 k e).2; omega⟩
theorem Three.listA (h : Three B w a b t sa sb st) (hn : sa.names.length < 1073741824) :
    Calls Try.prog 21 #[.pointer (some ⟨a, 0, none⟩)] w fun e w' => ∃ v : Value, e = .returned v ∧ w'.ownsRow 0 9 1 v sa.names.length (sa.names.map fun p => .string (bs p.1)) ∧ Below w.heap.size w w' := by
  obtain ⟨Fa, Fb, Ft, La, Lb, Lt, h1, h2, h3, h4, h5, h6⟩ := h.ex
  exact List_any h1 hn
theorem Three.listT (h : Three B w a b t sa sb st) (hn : st.names.length < 1073741824) :
    Calls Try.prog 21 #[.pointer (some ⟨t, 0, none⟩)] w fun e w' => ∃ v : Value, e = .returned v ∧ w'.ownsRow 0 9 1 v st.names.length (st.names.map fun p => .string (bs p.1)) ∧ Below w.heap.size w w' := by
  obtain ⟨Fa, Fb, Ft, La, Lb, Lt, h1, h2, h3, h4, h5, h6⟩ := h.ex
  exact List_any h3 hn
theorem Three.readA (h : Three B w a b t sa sb st) (ok : sa.Ok) {n : Nm} (hn : n.length ≤ 24) {x : List UInt8} (hr : sa.read n = (x, 0)) :
    Calls Try.prog 17 #[.pointer (some ⟨a, 0, none⟩), .string (bs n)] w fun e w' => e = .returned (.tuple #[.string (bs x), .int .i64 0]) ∧ w = w' := by
  obtain ⟨Fa, Fb, Ft, La, Lb, Lt, h1, h2, h3, h4, h5, h6⟩ := h.ex
  have hc := Read_any h1 ok (bs n) (by rw [bs_size]; unfold maxLen; omega)
  rw [bs_data, hr] at hc
  exact hc
theorem Three.readT (h : Three B w a b t sa sb st) (ok : st.Ok) {n : Nm} (hn : n.length ≤ 24) {x : List UInt8} (hr : st.read n = (x, 0)) :
    Calls Try.prog 17 #[.pointer (some ⟨t, 0, none⟩), .string (bs n)] w fun e w' => e = .returned (.tuple #[.string (bs x), .int .i64 0]) ∧ w = w' := by
  obtain ⟨Fa, Fb, Ft, La, Lb, Lt, h1, h2, h3, h4, h5, h6⟩ := h.ex
  have hc := Read_any h3 ok (bs n) (by rw [bs_size]; unfold maxLen; omega)
  rw [bs_data, hr] at hc
  exact hc
theorem Three.keys (h : Three B w a b t sa sb st) : sa.names.Pairwise (fun p q => p.1 ≠ q.1) := by
  obtain ⟨Fa, Fb, Ft, La, Lb, Lt, h1, h2, h3, h4, h5, h6⟩ := h.ex
  have := h1.names.keys Try.underlying9
  unfold mvM at this
  rw [List.pairwise_map] at this
  exact this
theorem two_twin {d : Nat} {s : Dsk} (h : Dw B w d s) (g : s.Good m) (hm : m ≤ 536870912) :
    Calls Try.prog 20 #[.pointer (some ⟨d, 0, none⟩)] w fun e w' => ∃ a, e = .returned (.pointer (some ⟨a, 0, none⟩)) ∧ Two B w' a d s s ∧ Below B w w' := by
  have hB := h.size
  obtain ⟨L, hL⟩ := h
  refine (Twin_any hL g hm (fun k hk => hk.2)).mono ?_
  rintro e w' ⟨t, L', rfl, ht, hb⟩
  have hz := hb.size
  exact ⟨t, rfl, ⟨_, _, L', L, ht, hL.below hb, fun k hk => ⟨by omega, by omega, by omega⟩, fun k hk => by omega⟩, hb.mono hB⟩
end
theorem names_form {w : World} {v : Value} {l : NM} (h : w.ownsRow 0 9 1 v l.length (l.map fun p => .string (bs p.1))) : ∃ A cap, v = .slice A l.length cap ∧ ∀ i p, l[i]? = some p → ∃ g, A = some ⟨g, 0, none⟩ ∧ g < w.heap.size ∧ w.cell? ⟨g, i, none⟩ = some (.string (bs p.1)) := by
  rcases h.2 with ⟨e, hn⟩ | ⟨g, cap, cur, e, _, hh, h1, h2, _⟩
  · refine ⟨none, 0, by rw [e, hn], fun j c hj => ?_⟩
    rw [List.eq_nil_of_length_eq_zero hn] at hj
    simp at hj
  · refine ⟨some ⟨g, 0, none⟩, cap, e, fun j c hj => ?_⟩
    have hg : v.ownBlock = some g := by rw [e]; rfl
    have hl := (own_lt h g hg).2
    have hc := World.ownsRow.cells h hg j (.string (bs c.1)) (by rw [List.getElem?_map, hj]; rfl)
    rw [show ((⟨g, 0, none⟩ : Addr).add j) = ⟨g, j, none⟩ from by cases j <;> simp [Addr.add]] at hc
    exact ⟨g, rfl, hl, hc⟩
theorem craAt_none (w : World) : CraAt w ⟨0, [], []⟩ none none := ⟨Reads.none_, Reads.none_, by decide, by decide, (fun x hx => by cases hx), (fun p hp => by cases hp)⟩
end Go.Proofs.Ytkhicfoikkllmaa
