/- A row of calls that came in, opened: its cells, as a list. -/
import Derived.Test.YtbaobjkhdieapaaDoorOPlays
import Derived.Test.YtbaobjkhdieapaaDoorK
import Derived.ProofKit
import Derived.OpenShut
import Derived.LaidMore
import Derived.Lay
import Derived.SevenTiedAt
import Derived.Stop.Joined
namespace Go.Proofs.YtbaobjkhdieapaaDoor
open Go.ChangeShapes Go.WideShapes Go.ChangeAt Go.RowKit Go.Joins Go.Deep
open Go.ChangeMaps (open_string)
set_option linter.unusedVariables false
set_option linter.unusedSimpArgs false

section
variable {H : Type} {enc : TypeId × Value → H} {P : Program} {w : World} {base : Nat} {spare : Nat → Bool} {held : Bool}
theorem open_slice_fields {t e : TypeId} {fs : Array Field} {fuel : Nat} {cs : List Value} {x : DataW H × List MemPlace} (ht : P.underlying t = some (.slice e)) (he : P.underlying e = some (.struct fs))
    (hone : oneCellFields P fs = true) (hC : P.cellsOf e = fs.size) (h : DataW.trod enc P w base spare held fuel t cs = some x) :
    (cs = [.slice none 0 0] ∧ x = (.nil, [])) ∨
    ∃ (a : Addr) (len cap m : Nat) (D : Nat → DataW H) (Pl : Nat → List MemPlace), cs = [.slice (some a) len cap] ∧ base ≤ a.block ∧ len ≤ cap ∧ cap ≤ maxLen ∧ m = (if spare a.block then cap else len) ∧
      x = (.slice ((List.range len).map D) ((List.range (m - len)).map fun j => D (len + j)), MemPlace.row a (m * fs.size) ++ (List.range m).flatMap Pl) ∧
      ∀ i, i < m → ∃ (ys : List (DataW H × List MemPlace)) (n : Nat), D i = .agg (ys.map (·.1)) ∧ Pl i = ys.flatMap (·.2) ∧ ys.length = fs.size ∧
        ∀ (j : Nat) (f : Field), fs[j]? = some f → ∃ (v : Value) (y : DataW H × List MemPlace), w.cell? (a.add (i * fs.size + j)) = some v ∧ ys[j]? = some y ∧ DataW.trod enc P w base spare held n f.type [v] = some y := by
  rcases open_slice ht h with h0 | ⟨a, len, cap, m, n, D, Pl, hcs, hb, hl, hm, hmm, hx, hi⟩
  · exact .inl h0
  · refine .inr ⟨a, len, cap, m, D, Pl, hcs, hb, hl, hm, hmm, by rw [hC] at hx; exact hx, fun i him => ?_⟩
    obtain ⟨cs', hc, ht'⟩ := hi i him
    rw [hC] at hc
    obtain ⟨ys, n', hn', hy, hlen, hyl, hf⟩ := DataW.trod_struct he ht'
    obtain ⟨_, hcl, hat⟩ := World.cells?_some hc
    simp only [Prod.mk.injEq] at hy
    refine ⟨ys, n', hy.1, hy.2, hyl, fun j f hj => ?_⟩
    obtain ⟨ho, hk⟩ := hone_of hone j f hj
    have hjl : j < fs.size := (Array.getElem?_eq_some_iff.1 hj).1
    have hcell := hat j hjl
    have hv : cs'[j]? = some (cs'[j]'(by omega)) := List.getElem?_eq_getElem (by omega)
    have h1 := hf j f hj
    rw [ho, hk] at h1
    have hone' : (cs'.drop j).take 1 = [cs'[j]'(by omega)] := by
      rw [List.drop_eq_getElem_cons (by omega)]
      rfl
    rw [hone'] at h1
    have hys : ys[j]? = some (ys[j]'(by omega)) := List.getElem?_eq_getElem (by omega)
    refine ⟨_, _, ?_, hys, h1.trans hys⟩
    rw [← Go.Deep.add_add, hcell, hv]
end

theorem plain_of_cell {w : World} {a : Addr} {v : Value} (h : w.cell? a = some v) : a = ⟨a.block, a.off, none⟩ := by
  obtain ⟨b, o, s⟩ := a
  cases s with
  | none => rfl
  | some s =>
    unfold World.cell? at h
    split at h <;> simp at h
theorem add_plain (b o n : Nat) : (⟨b, o, none⟩ : Addr).add n = ⟨b, o + n, none⟩ := by unfold Addr.add; split <;> simp_all


theorem list_of {T : Type} {P : Nat → T → Prop} : ∀ (n : Nat), (∀ i, i < n → ∃ x, P i x) → ∃ l : List T, l.length = n ∧ ∀ i x, l[i]? = some x → P i x
  | 0, _ => ⟨[], rfl, fun i x h => by simp at h⟩
  | n + 1, h => by
    obtain ⟨l, hl, hp⟩ := list_of n (fun i hi => h i (by omega))
    obtain ⟨x, hx⟩ := h n (by omega)
    refine ⟨l ++ [x], by simp [hl], fun i y hy => ?_⟩
    by_cases hi : i < l.length
    · rw [List.getElem?_append_left hi] at hy
      exact hp i y hy
    · rw [List.getElem?_append_right (by omega)] at hy
      have : i - l.length = 0 := by
        rcases Nat.eq_zero_or_pos (i - l.length) with h0 | h0
        · exact h0
        · rw [List.getElem?_eq_none (by simp; omega)] at hy; cases hy
      rw [this] at hy
      simp at hy
      subst hy
      have : i = n := by omega
      subst this
      exact hx
theorem actsV_len (l : List Act4) : (actsV l).length = l.length * 4 := by
  induction l with
  | nil => rfl
  | cons x l ih => simp [actsV, actV] at ih ⊢; omega

set_option maxRecDepth 100000 in
set_option maxHeartbeats 1000000 in
theorem calls_open {H : Type} {enc : TypeId × Value → H} {W : World} {base : Nat} {v : Value} {d : DataW H} {p : List MemPlace}
    (hv : Value.okWide Tryd.prog W .any base 36 v) (h : DataW.Trod enc Tryd.prog W 0 (fun _ => true) true 36 v d p) (hp : ∀ x ∈ p, x.block < W.heap.size) :
    ∃ A l cap, v = .slice A l.length cap ∧ Reads W W.heap.size 4 A l.length (actsV l) ∧ l.length ≤ maxLen ∧ ∀ x ∈ l, InOk x := by
  obtain ⟨A, n, cap, rfl⟩ := okWide_slice Tryd.underlying36 hv
  obtain ⟨fuel, hf⟩ := h
  rcases open_slice_fields Tryd.underlying36 Tryd.underlying40 (by kernel_rfl) (by kernel_rfl) hf with ⟨hcs, hx⟩ | ⟨a, len, cap', m, D, Pl, hcs, hb, hl, hm, hmm, hx, hi⟩
  · simp [Value.cells] at hcs
    obtain ⟨rfl, rfl, rfl⟩ := hcs
    exact ⟨none, [], 0, rfl, Reads.none_, by simp, by simp⟩
  · simp [Value.cells] at hcs
    obtain ⟨rfl, rfl, rfl⟩ := hcs
    simp at hmm
    subst hmm
    by_cases hn0 : n = 0
    · subst hn0
      exact ⟨some a, [], m, rfl, ⟨rfl, fun h => absurd h (by simp)⟩, by simp, by simp⟩
    have hpl : a = ⟨a.block, a.off, none⟩ := by
      obtain ⟨ys, n0, h1, h2, h3, h4⟩ := hi 0 (by omega)
      obtain ⟨v, y, hc, _, _⟩ := h4 0 _ rfl
      have e0 : a.add (0 * 4 + 0) = a := by unfold Addr.add; simp
      have hc' := plain_of_cell hc
      rw [show (#[_, _, _, _] : Array Field).size = 4 from rfl] at hc'
      rw [e0] at hc'
      exact hc'
    have hblk : a.block < W.heap.size := by
      have hx2 := (Prod.mk.inj hx).2
      exact hp (.cell a.block a.off) (by rw [hx2]; refine List.mem_append_left _ ?_; rw [hpl]; simp [MemPlace.row]; omega)
    have hall : ∀ k, k < n → ∃ x : Act4, W.cell? (a.add (k * 4)) = some (.int .u8 x.c) ∧ W.cell? (a.add (k * 4 + 1)) = some (.int .u64 x.n) ∧ W.cell? (a.add (k * 4 + 2)) = some (.string x.a) ∧ W.cell? (a.add (k * 4 + 3)) = some (.bool x.g) ∧ InOk x := by
      intro k hk
      obtain ⟨ys, n0, h1, h2, h3, h4⟩ := hi k (by omega)
      obtain ⟨v0, y0, c0, _, t0⟩ := h4 0 _ rfl
      obtain ⟨v1, y1, c1, _, t1⟩ := h4 1 _ rfl
      obtain ⟨v2, y2, c2, _, t2⟩ := h4 2 _ rfl
      obtain ⟨v3, y3, c3, _, t3⟩ := h4 3 _ rfl
      obtain ⟨x0, e0, rfl, w0⟩ := DataW.trod_int Tryd.underlying5 t0
      obtain ⟨x1, e1, rfl, w1⟩ := DataW.trod_int Tryd.underlying26 t1
      obtain ⟨x2, e2, rfl, w2⟩ := DataW.trod_string Tryd.underlying9 t2
      obtain ⟨x3, e3, rfl⟩ := DataW.trod_bool Tryd.underlying4 t3
      simp at e0 e1 e2 e3
      subst e0 e1 e2 e3
      have b0 := bounds_u8 w0
      have b1 := bounds_u64 w1
      rw [show (#[_, _, _, _] : Array Field).size = 4 from rfl] at c0 c1 c2 c3
      refine ⟨⟨x0.toNat, x1.toNat, x2, x3⟩, ?_, ?_, c2, c3, ⟨by simp only []; omega, by simp only []; omega, by simp only []; unfold maxLen at w2; omega⟩⟩
      · simp only []
        rw [show ((x0.toNat : Nat) : Int) = x0 from by omega]
        simpa using c0
      · simp only []
        rw [show ((x1.toNat : Nat) : Int) = x1 from by omega]
        exact c1
    obtain ⟨l, hl2, hP⟩ := list_of n hall
    refine ⟨some a, l, m, by rw [hl2], ⟨actsV_len l, fun hn => ⟨a, rfl, hblk, fun j u hu => ?_⟩⟩, by rw [hl2]; omega, fun x hx => ?_⟩
    · have hj : j < l.length * 4 := by
        rcases Nat.lt_or_ge j (l.length * 4) with h | h
        · exact h
        · rw [List.getElem?_eq_none (by rw [actsV_len]; exact h)] at hu; cases hu
      have hk : j / 4 < l.length := by omega
      have hget := List.getElem?_eq_getElem hk
      obtain ⟨p0, p1, p2, p3, _⟩ := hP _ _ hget
      obtain ⟨q0, q1, q2, q3⟩ := actsV_at l _ _ hget
      have hr : j = j / 4 * 4 ∨ j = j / 4 * 4 + 1 ∨ j = j / 4 * 4 + 2 ∨ j = j / 4 * 4 + 3 := by omega
      rcases hr with e | e | e | e <;> rw [e] at hu ⊢
      · rw [p0]; rw [q0] at hu; exact hu
      · rw [p1]; rw [q1] at hu; exact hu
      · rw [p2]; rw [q2] at hu; exact hu
      · rw [p3]; rw [q3] at hu; exact hu
    · obtain ⟨i, hi2, rfl⟩ := List.mem_iff_getElem.1 hx
      exact (hP i _ (List.getElem?_eq_getElem hi2)).2.2.2.2
end Go.Proofs.YtbaobjkhdieapaaDoor
