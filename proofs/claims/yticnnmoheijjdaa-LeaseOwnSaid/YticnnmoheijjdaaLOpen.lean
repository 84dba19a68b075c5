/- A row of acts that came in, opened: its cells. -/
import Derived.Test.YticnnmoheijjdaaLActs
namespace Go.Proofs.Yticnnmoheijjdaa
open Go.ChangeShapes Go.WideShapes Go.ChangeAt Go.RowKit Go.Joins Go.Deep
open Go.ChangeMaps (open_string)
set_option linter.unusedVariables false

section
variable {H : Type} {enc : TypeId × Value → H} {P : Program} {w : World} {base : Nat} {spare : Nat → Bool} {held : Bool}
theorem open_slice_fields {t e : TypeId} {fs : Array Field} {fuel : Nat} {cs : List Value} {x : DataW H × List MemPlace} (ht : P.underlying t = some (.slice e)) (he : P.underlying e = some (.struct fs))
    (hone : oneCellFields P fs = true) (hC : P.cellsOf e = fs.size) (h : DataW.trod enc P w base spare held fuel t cs = some x) :
    (cs = [.slice none 0 0] ∧ x = (.nil, [])) ∨
    ∃ (a : Addr) (len cap m : Nat) (D : Nat → DataW H) (Pl : Nat → List MemPlace), cs = [.slice (some a) len cap] ∧ base ≤ a.block ∧ len ≤ cap ∧ cap ≤ maxLen ∧ m = (if spare a.block then cap else len) ∧
      x = (.slice ((List.range len).map D) ((List.range (m - len)).map fun j => D (len + j)), MemPlace.row a (m * fs.size) ++ (List.range m).flatMap Pl) ∧
      ∀ i, i < m → ∃ (ys : List (DataW H × List MemPlace)) (n : Nat), D i = .agg (ys.map (·.1)) ∧ Pl i = ys.flatMap (·.2) ∧ ys.length = fs.size ∧
        ∀ (j : Nat) (f : Field), fs[j]? = some f → ∃ (v : Value) (y : DataW H × List MemPlace), w.cell? (a.add (i * fs.size + j)) = some v ∧ ys[j]? = some y ∧ DataW.trod enc P w base spare held n f.type [v] = some y := by
  rcases open_slice ht h with h0 | ⟨a, len, cap, m, n, D, Pl, hcs, hb, hl, hm, hmm, hx, hi⟩
  · exact .inl h0
  · refine .inr ⟨a, len, cap, m, D, Pl, hcs, hb, hl, hm, hmm, by rw [hC] at hx; exact hx, fun i him => ?_⟩
    obtain ⟨cs', hc, ht'⟩ := hi i him
    rw [hC] at hc
    obtain ⟨ys, n', hn', hy, hlen, hyl, hf⟩ := DataW.trod_struct he ht'
    obtain ⟨_, hcl, hat⟩ := World.cells?_some hc
    simp only [Prod.mk.injEq] at hy
    refine ⟨ys, n', hy.1, hy.2, hyl, fun j f hj => ?_⟩
    obtain ⟨ho, hk⟩ := hone_of hone j f hj
    have hjl : j < fs.size := (Array.getElem?_eq_some_iff.1 hj).1
    have hcell := hat j hjl
    have hv : cs'[j]? = some (cs'[j]'(by omega)) := List.getElem?_eq_getElem (by omega)
    have h1 := hf j f hj
    rw [ho, hk] at h1
    have hone' : (cs'.drop j).take 1 = [cs'[j]'(by omega)] := by
      rw [List.drop_eq_getElem_cons (by omega)]
      rfl
    rw [hone'] at h1
    have hys : ys[j]? = some (ys[j]'(by omega)) := List.getElem?_eq_getElem (by omega)
    refine ⟨_, _, ?_, hys, h1.trans hys⟩
    rw [← Go.Deep.add_add, hcell, hv]
end

theorem plain_of_cell {w : World} {a : Addr} {v : Value} (h : w.cell? a = some v) : a = ⟨a.block, a.off, none⟩ := by
  obtain ⟨b, o, s⟩ := a
  cases s with
  | none => rfl
  | some s =>
    unfold World.cell? at h
    split at h <;> simp at h
theorem add_plain (b o n : Nat) : (⟨b, o, none⟩ : Addr).add n = ⟨b, o + n, none⟩ := by unfold Addr.add; split <;> simp_all

/-- The argument, opened. -/
theorem acts_open {H : Type} {enc : TypeId × Value → H} {W : World} {base : Nat} {v : Value} {d : DataW H} {p : List MemPlace}
    (hv : Value.okWide Try.prog W .any base 46 v) (h : DataW.Trod enc Try.prog W 0 (fun _ => true) true 46 v d p) (hp : ∀ x ∈ p, x.block < W.heap.size) :
    ∃ A n cap, v = .slice A n cap ∧ ActsAt W A n := by
  obtain ⟨A, n, cap, rfl⟩ := okWide_slice Try.underlying46 hv
  refine ⟨A, n, cap, rfl, ?_⟩
  obtain ⟨fuel, hf⟩ := h
  rcases open_slice_fields Try.underlying46 Try.underlying40 (by kernel_rfl) (by kernel_rfl) hf with ⟨hcs, hx⟩ | ⟨a, len, cap', m, D, Pl, hcs, hb, hl, hm, hmm, hx, hi⟩
  · simp [Value.cells] at hcs
    obtain ⟨rfl, rfl, rfl⟩ := hcs
    exact ⟨by unfold maxLen; omega, fun h => by omega⟩
  · simp [Value.cells] at hcs
    obtain ⟨rfl, rfl, rfl⟩ := hcs
    simp at hmm
    subst hmm
    refine ⟨by unfold maxLen at *; omega, fun hn => ?_⟩
    have hpl : a = ⟨a.block, a.off, none⟩ := by
      obtain ⟨ys, n0, h1, h2, h3, h4⟩ := hi 0 (by omega)
      obtain ⟨v, y, hc, _, _⟩ := h4 0 _ rfl
      have e0 : a.add (0 * 5 + 0) = a := by unfold Addr.add; simp
      have hc' := plain_of_cell hc
      rw [show (#[_, _, _, _, _] : Array Field).size = 5 from rfl] at hc'
      rw [e0] at hc'
      exact hc'
    generalize hab : a.block = ab at hpl
    generalize hao : a.off = ao at hpl
    subst hpl
    refine ⟨ab, ao, rfl, ?_, fun k hk => ?_⟩
    · have hx2 := (Prod.mk.inj hx).2
      have := hp (.cell ab ao) (by rw [hx2]; refine List.mem_append_left _ ?_; simp [MemPlace.row]; omega)
      exact this
    · obtain ⟨ys, n0, h1, h2, h3, h4⟩ := hi k (by omega)
      obtain ⟨v0, y0, c0, _, t0⟩ := h4 0 _ rfl
      obtain ⟨v1, y1, c1, _, t1⟩ := h4 1 _ rfl
      obtain ⟨v2, y2, c2, _, t2⟩ := h4 2 _ rfl
      obtain ⟨v3, y3, c3, _, t3⟩ := h4 3 _ rfl
      obtain ⟨v4, y4, c4, _, t4⟩ := h4 4 _ rfl
      obtain ⟨x0, e0, rfl, w0⟩ := DataW.trod_int Try.underlying3 t0
      obtain ⟨x1, e1, rfl, w1⟩ := DataW.trod_string Try.underlying9 t1
      obtain ⟨x2, e2, rfl, w2⟩ := DataW.trod_string Try.underlying9 t2
      obtain ⟨x3, e3, rfl, w3⟩ := DataW.trod_int Try.underlying22 t3
      obtain ⟨x4, e4, rfl, w4⟩ := DataW.trod_int Try.underlying22 t4
      simp at e0 e1 e2 e3 e4
      subst e0 e1 e2 e3 e4
      rw [add_plain] at c0 c1 c2 c3 c4
      have b0 := bounds_i64 w0
      have b3 := bounds_u64 w3
      have b4 := bounds_u64 w4
      refine ⟨⟨x0, x1, x2, x3, x4⟩, ⟨?_, ?_, ?_, ?_, ?_⟩, b3.1, b3.2, b4.1, b4.2, w1, w2, b0.1, b0.2⟩
      · simpa using c0
      · simpa [Nat.add_assoc] using c1
      · simpa [Nat.add_assoc] using c2
      · simpa [Nat.add_assoc] using c3
      · simpa [Nat.add_assoc] using c4
end Go.Proofs.Yticnnmoheijjdaa
