/- A row of acts, and a crash's choices, that came in, opened: their cells, as lists. -/
import Derived.Test.YtkhicfoikkllmaaDGrt
import Derived.Test.YtkhicfoikkllmaaK
import Derived.ProofKit
import Derived.OpenShut
import Derived.LaidMore
import Derived.Lay
import Derived.Stop.Joined
namespace Go.Proofs.Ytkhicfoikkllmaa
open Go.ChangeShapes Go.WideShapes Go.ChangeAt Go.RowKit Go.Joins Go.Deep
open Go.ChangeMaps (open_string)
set_option linter.unusedVariables false
set_option linter.unusedSimpArgs false
theorem plain_of_cell {w : World} {a : Addr} {v : Value} (h : w.cell? a = some v) : a = ⟨a.block, a.off, none⟩ := by
  obtain ⟨b, o, s⟩ := a
  cases s with
  | none => rfl
  | some s =>
    unfold World.cell? at h
    split at h <;> simp at h
theorem list_of {T : Type} {P : Nat → T → Prop} : ∀ (n : Nat), (∀ i, i < n → ∃ x, P i x) → ∃ l : List T, l.length = n ∧ ∀ i x, l[i]? = some x → P i x
  | 0, _ => ⟨[], rfl, fun i x h => by simp at h⟩
  | n + 1, h => by
    obtain ⟨l, hl, hp⟩ := list_of n (fun i hi => h i (by omega))
    obtain ⟨x, hx⟩ := h n (by omega)
    refine ⟨l ++ [x], by simp [hl], fun i y hy => ?_⟩
    by_cases hi : i < l.length
    · rw [List.getElem?_append_left hi] at hy
      exact hp i y hy
    · rw [List.getElem?_append_right (by omega)] at hy
      have : i - l.length = 0 := by
        rcases Nat.eq_zero_or_pos (i - l.length) with h0 | h0
        · exact h0
        · rw [List.getElem?_eq_none (by simp; omega)] at hy; cases hy
      rw [this] at hy
      simp at hy
      subst hy
      have : i = n := by omega
      subst this
      exact hx
theorem mem_at {T : Type} {P : Nat → T → Prop} {l : List T} (h : ∀ i x, l[i]? = some x → P i x) {x : T} (hx : x ∈ l) : ∃ i, P i x := by
  obtain ⟨i, hi, rfl⟩ := List.mem_iff_getElem.1 hx
  exact ⟨i, h i _ (List.getElem?_eq_getElem hi)⟩
/-- A list of rows of so many values each. -/
theorem flat_at {T : Type} {f : T → List Value} {m : Nat} (hm : 0 < m) (hf : ∀ x, (f x).length = m) : ∀ (l : List T) (j : Nat) (u : Value), (l.flatMap f)[j]? = some u → ∃ x, l[j / m]? = some x ∧ (f x)[j % m]? = some u
  | [], j, u, h => by simp at h
  | a :: l, j, u, h => by
    rw [List.flatMap_cons] at h
    by_cases hj : j < m
    · rw [List.getElem?_append_left (by rw [hf]; exact hj)] at h
      exact ⟨a, by rw [Nat.div_eq_of_lt hj]; rfl, by rw [Nat.mod_eq_of_lt hj]; exact h⟩
    · rw [List.getElem?_append_right (by rw [hf]; omega), hf] at h
      obtain ⟨x, h1, h2⟩ := flat_at hm hf l (j - m) u h
      refine ⟨x, ?_, ?_⟩
      · have : j / m = (j - m) / m + 1 := by rw [Nat.div_eq_sub_div hm (by omega)]
        rw [this]
        simpa using h1
      · have : j % m = (j - m) % m := Nat.mod_eq_sub_mod (by omega)
        rw [this]
        exact h2
theorem flat_len {T : Type} {f : T → List Value} {m : Nat} (hf : ∀ x, (f x).length = m) (l : List T) : (l.flatMap f).length = l.length * m := by
  induction l with
  | nil => simp
  | cons a l ih => rw [List.flatMap_cons, List.length_append, hf, ih, List.length_cons, Nat.add_mul]; omega
theorem k3 : Try.prog.cellsOf 3 = 1 := by kernel_rfl
theorem k86 : Try.prog.cellsOf 86 = 1 := by kernel_rfl
theorem k23 : Try.prog.cellsOf 23 = 1 := by kernel_rfl
theorem k24 : Try.prog.cellsOf 24 = 1 := by kernel_rfl
theorem k5 : Try.prog.cellsOf 5 = 1 := by kernel_rfl
theorem k9 : Try.prog.cellsOf 9 = 1 := by kernel_rfl
theorem k26 : Try.prog.cellsOf 26 = 3 := by kernel_rfl
theorem keepV_flat : ∀ l : List Int, l.flatMap (fun x => [Value.int .i64 x]) = keepV l
  | [] => rfl
  | a :: l => by
    rw [List.flatMap_cons, keepV_flat l]
    rfl
section
variable {H : Type} {enc : TypeId × Value → H} {W : World}
/-- A row whose items are read one by one. -/
theorem row_open {T : Type} {t e m n : Nat} {v : Value} {y : DataW H × List MemPlace} (ht : Try.prog.underlying t = some (.slice e)) (hC : Try.prog.cellsOf e = m) (hm : 0 < m) (f : T → List Value) (hf : ∀ x, (f x).length = m) (Q : T → Prop)
    (hone : ∀ (n : Nat) (cs : List Value) (z : DataW H × List MemPlace), (∀ x ∈ z.2, x.block < W.heap.size) → DataW.trod enc Try.prog W 0 (fun _ => true) true n e cs = some z → ∃ x, cs = f x ∧ Q x)
    (h : DataW.trod enc Try.prog W 0 (fun _ => true) true n t [v] = some y) (hp : ∀ x ∈ y.2, x.block < W.heap.size) : ∃ (A : Option Addr) (l : List T) (cap : Nat), v = .slice A l.length cap ∧ Reads W W.heap.size m A l.length (l.flatMap f) ∧ l.length ≤ maxLen ∧ ∀ x ∈ l, Q x := by
  rcases open_slice ht h with ⟨hcs, hx⟩ | ⟨a, len, cap, mm, n', D, Pl, hcs, hb, hl, hcm, hmm, hx, hi⟩
  · simp at hcs
    subst hcs
    exact ⟨none, [], 0, rfl, Reads.none_, by simp, by simp⟩
  · simp at hcs
    subst hcs
    simp at hmm
    subst hmm
    by_cases hn0 : len = 0
    · subst hn0
      exact ⟨some a, [], mm, rfl, ⟨by simp, fun h => absurd h (by simp)⟩, by simp, by simp⟩
    have hall : ∀ k, k < len → ∃ x, Q x ∧ ∀ j u, (f x)[j]? = some u → W.cell? (a.add (k * m + j)) = some u := by
      intro k hk
      obtain ⟨cs', hc, ht'⟩ := hi k (by omega)
      rw [hC] at hc
      obtain ⟨_, hcl, hat⟩ := World.cells?_some hc
      obtain ⟨x, rfl, hq⟩ := hone n' cs' _ (fun z hz => hp z (by
        rw [hx]
        exact List.mem_append_right _ (List.mem_flatMap.2 ⟨k, List.mem_range.2 (by omega), hz⟩))) ht'
      refine ⟨x, hq, fun j u hu => ?_⟩
      have hj : j < m := by rw [← hf x]; exact (List.getElem?_eq_some_iff.1 hu).1
      have := hat j hj
      rw [Go.Deep.add_add] at this
      rw [this, hu]
    obtain ⟨x0, _, h0⟩ := hall 0 (by omega)
    have hf0 : (f x0)[0]? = some ((f x0)[0]'(by rw [hf]; exact hm)) := List.getElem?_eq_getElem (by rw [hf]; exact hm)
    have hc0 := h0 0 _ hf0
    have e0 : a.add (0 * m + 0) = a := by unfold Addr.add; simp
    rw [e0] at hc0
    have hpl := plain_of_cell hc0
    have hblk : a.block < W.heap.size := hp (.cell a.block a.off) (by
      rw [hx]
      refine List.mem_append_left _ ?_
      rw [hpl, hC]
      have : 0 < mm * m := Nat.mul_pos (by omega) hm
      simp [MemPlace.row]
      omega)
    obtain ⟨l, hl2, hP⟩ := list_of len hall
    refine ⟨some a, l, mm, by rw [hl2], ⟨flat_len hf l, fun hn => ⟨a, rfl, hblk, fun j u hu => ?_⟩⟩, by rw [hl2]; omega, fun x hx => ?_⟩
    · obtain ⟨x, h1, h2⟩ := flat_at hm hf l j u hu
      have := (hP _ _ h1).2 _ _ h2
      rw [show j / m * m + j % m = j from by rw [Nat.mul_comm]; exact Nat.div_add_mod j m] at this
      exact this
    · obtain ⟨i, hq, _⟩ := mem_at hP hx
      exact hq
set_option maxRecDepth 100000 in
theorem ints_open {n : Nat} {v : Value} {y : DataW H × List MemPlace} (h : DataW.trod enc Try.prog W 0 (fun _ => true) true n 23 [v] = some y) (hp : ∀ x ∈ y.2, x.block < W.heap.size) :
    ∃ (A : Option Addr) (l : List Int) (cap : Nat), v = .slice A l.length cap ∧ Reads W W.heap.size 1 A l.length (keepV l) ∧ l.length ≤ maxLen ∧ ∀ x ∈ l, -9223372036854775808 ≤ x ∧ x ≤ 9223372036854775807 := by
  obtain ⟨A, l, cap, e1, e2, e3, e4⟩ := row_open (T := Int) Try.underlying23 (by kernel_rfl : Try.prog.cellsOf 3 = 1) (by omega) (fun x => [.int .i64 x]) (fun _ => rfl) (fun x => -9223372036854775808 ≤ x ∧ x ≤ 9223372036854775807) (fun n cs z _ hz => by
    obtain ⟨x, e, _, hw⟩ := DataW.trod_int Try.underlying3 hz
    exact ⟨x, e, bounds_i64 hw⟩) h hp
  have hk := keepV_flat l
  exact ⟨A, l, cap, e1, by rw [← hk]; exact e2, e3, e4⟩
set_option maxRecDepth 100000 in
theorem spoils_open {n : Nat} {v : Value} {y : DataW H × List MemPlace} (h : DataW.trod enc Try.prog W 0 (fun _ => true) true n 24 [v] = some y) (hp : ∀ x ∈ y.2, x.block < W.heap.size) :
    ∃ (A : Option Addr) (l : List (Int × Nat)) (cap : Nat), v = .slice A l.length cap ∧ Reads W W.heap.size 2 A l.length (spoilV l) ∧ l.length ≤ maxLen ∧ ∀ p ∈ l, -9223372036854775808 ≤ p.1 ∧ p.1 ≤ 9223372036854775807 ∧ p.2 < 4294967296 := by
  refine row_open (T := Int × Nat) Try.underlying24 (by kernel_rfl : Try.prog.cellsOf 88 = 2) (by omega) (fun p => [.int .i64 p.1, .int .u32 (p.2 : Nat)]) (fun _ => rfl) (fun p => -9223372036854775808 ≤ p.1 ∧ p.1 ≤ 9223372036854775807 ∧ p.2 < 4294967296) (fun n cs z _ hz => ?_) h hp
  obtain ⟨y0, y1, n', _, hl, h0, h1⟩ := trod_struct2 Try.underlying88 hz
  rw [(by kernel_rfl : Try.prog.cellsOf 88 = 2)] at hl
  match cs, hl with
  | [c0, c1], _ =>
    replace h0 : DataW.trod enc Try.prog W 0 (fun _ => true) true n' 3 [c0] = some y0 := by
      have h := h0
      try dsimp only at h
      rw [k3] at h
      exact h
    replace h1 : DataW.trod enc Try.prog W 0 (fun _ => true) true n' 86 [c1] = some y1 := by
      have h := h1
      try dsimp only at h
      rw [k86] at h
      exact h
    obtain ⟨x0, e0, _, w0⟩ := DataW.trod_int Try.underlying3 h0
    obtain ⟨x1, e1, _, w1⟩ := DataW.trod_int Try.underlying86 h1
    simp at e0 e1
    subst e0 e1
    have b0 := bounds_i64 w0
    have b1 := bounds_u32 w1
    refine ⟨(x0, x1.toNat), ?_, b0.1, b0.2, by simp only []; omega⟩
    simp only []
    rw [show ((x1.toNat : Nat) : Int) = x1 from by omega]
set_option maxRecDepth 100000 in
/-- A crash's three cells. -/
theorem cra_open {n : Nat} {cs : List Value} {y : DataW H × List MemPlace} (h : DataW.trod enc Try.prog W 0 (fun _ => true) true n 26 cs = some y) (hp : ∀ x ∈ y.2, x.block < W.heap.size) :
    ∃ (c : Cra) (KA : Option Addr) (kc : Nat) (PA : Option Addr) (pc : Nat), cs = [.int .i64 c.names, .slice KA c.keep.length kc, .slice PA c.spoil.length pc] ∧ CraR W.heap.size W c KA PA ∧ c.keep.length ≤ maxLen ∧ c.spoil.length ≤ maxLen := by
  obtain ⟨y0, y1, y2, n', hx, hl, h0, h1, h2⟩ := trod_struct3 Try.underlying26 h
  rw [(by kernel_rfl : Try.prog.cellsOf 26 = 3)] at hl
  match cs, hl with
  | [c0, c1, c2], _ =>
    replace h0 : DataW.trod enc Try.prog W 0 (fun _ => true) true n' 3 [c0] = some y0 := by
      have h := h0
      try dsimp only at h
      rw [k3] at h
      exact h
    replace h1 : DataW.trod enc Try.prog W 0 (fun _ => true) true n' 23 [c1] = some y1 := by
      have h := h1
      try dsimp only at h
      rw [k23] at h
      exact h
    replace h2 : DataW.trod enc Try.prog W 0 (fun _ => true) true n' 24 [c2] = some y2 := by
      have h := h2
      try dsimp only at h
      rw [k24] at h
      exact h
    obtain ⟨x0, e0, _, w0⟩ := DataW.trod_int Try.underlying3 h0
    simp at e0
    subst e0
    rw [hx] at hp
    obtain ⟨KA, kl, kc, rfl, r1, l1, b1⟩ := ints_open h1 (fun x hx => hp x (by simp; exact .inr (.inl hx)))
    obtain ⟨PA, pl, pc, rfl, r2, l2, b2⟩ := spoils_open h2 (fun x hx => hp x (by simp; exact .inr (.inr hx)))
    exact ⟨⟨x0, kl, pl⟩, KA, kc, PA, pc, rfl, ⟨r1, r2, b1, b2⟩, l1, l2⟩
set_option maxRecDepth 100000 in
/-- An act's seven cells. -/
theorem act_open {n : Nat} {cs : List Value} {y : DataW H × List MemPlace} (h : DataW.trod enc Try.prog W 0 (fun _ => true) true n 41 cs = some y) (hp : ∀ x ∈ y.2, x.block < W.heap.size) :
    ∃ m : MAct, cs = mactC m ∧ MOk W.heap.size W m := by
  obtain ⟨xs, n', _, hx, hl, hlen, hf⟩ := DataW.trod_struct Try.underlying41 h
  rw [(by kernel_rfl : Try.prog.cellsOf 41 = 7)] at hl
  match cs, hl with
  | [c0, c1, c2, c3, c4, c5, c6], _ =>
    have h0 := hf 0 _ rfl
    have h1 := hf 1 _ rfl
    have h2 := hf 2 _ rfl
    have h3 := hf 3 _ rfl
    have h4 := hf 4 _ rfl
    match xs, hlen with
    | [z0, z1, z2, z3, z4], _ =>
      replace h0 : DataW.trod enc Try.prog W 0 (fun _ => true) true n' 5 [c0] = some z0 := by
        have h : DataW.trod enc Try.prog W 0 (fun _ => true) true n' 5 ((List.drop 0 [c0, c1, c2, c3, c4, c5, c6]).take (Try.prog.cellsOf 5)) = some z0 := h0
        rw [k5] at h
        exact h
      replace h1 : DataW.trod enc Try.prog W 0 (fun _ => true) true n' 9 [c1] = some z1 := by
        have h : DataW.trod enc Try.prog W 0 (fun _ => true) true n' 9 ((List.drop 1 [c0, c1, c2, c3, c4, c5, c6]).take (Try.prog.cellsOf 9)) = some z1 := h1
        rw [k9] at h
        exact h
      replace h2 : DataW.trod enc Try.prog W 0 (fun _ => true) true n' 9 [c2] = some z2 := by
        have h : DataW.trod enc Try.prog W 0 (fun _ => true) true n' 9 ((List.drop 2 [c0, c1, c2, c3, c4, c5, c6]).take (Try.prog.cellsOf 9)) = some z2 := h2
        rw [k9] at h
        exact h
      replace h3 : DataW.trod enc Try.prog W 0 (fun _ => true) true n' 3 [c3] = some z3 := by
        have h : DataW.trod enc Try.prog W 0 (fun _ => true) true n' 3 ((List.drop 3 [c0, c1, c2, c3, c4, c5, c6]).take (Try.prog.cellsOf 3)) = some z3 := h3
        rw [k3] at h
        exact h
      replace h4 : DataW.trod enc Try.prog W 0 (fun _ => true) true n' 26 [c4, c5, c6] = some z4 := by
        have h : DataW.trod enc Try.prog W 0 (fun _ => true) true n' 26 ((List.drop 4 [c0, c1, c2, c3, c4, c5, c6]).take (Try.prog.cellsOf 26)) = some z4 := h4
        rw [k26] at h
        exact h
      obtain ⟨x0, e0, _, w0⟩ := DataW.trod_int Try.underlying5 h0
      obtain ⟨x1, e1, _, w1⟩ := DataW.trod_string Try.underlying9 h1
      obtain ⟨x2, e2, _, w2⟩ := DataW.trod_string Try.underlying9 h2
      obtain ⟨x3, e3, _, w3⟩ := DataW.trod_int Try.underlying3 h3
      simp at e0 e1 e2 e3
      subst e0 e1 e2 e3
      have b0 := bounds_u8 w0
      have b3 := bounds_i64 w3
      rw [hx] at hp
      obtain ⟨c, KA, kc, PA, pc, e4, hr, l1, l2⟩ := cra_open h4 (fun x hx => hp x (by simp; exact .inr (.inr (.inr (.inr hx)))))
      simp at e4
      obtain ⟨rfl, rfl, rfl⟩ := e4
      refine ⟨⟨⟨x0.toNat, x1, x2, x3, c⟩, KA, kc, PA, pc⟩, ?_, ⟨hr, by simp only []; omega, w1, w2, b3.2, l1, l2⟩⟩
      unfold mactC
      simp only []
      rw [show ((x0.toNat : Nat) : Int) = x0 from by omega]
end
set_option maxRecDepth 100000 in
theorem acts_open {H : Type} {enc : TypeId × Value → H} {W : World} {base : Nat} {v : Value} {d : DataW H} {p : List MemPlace}
    (hv : Value.okWide Try.prog W .any base 22 v) (h : DataW.Trod enc Try.prog W 0 (fun _ => true) true 22 v d p) (hp : ∀ x ∈ p, x.block < W.heap.size) :
    ∃ A l cap, v = .slice A l.length cap ∧ ActsAt W.heap.size W A l ∧ l.length ≤ maxLen := by
  obtain ⟨A, n, cap, rfl⟩ := okWide_slice Try.underlying22 hv
  obtain ⟨fuel, hf⟩ := h
  obtain ⟨A', l, cap', e, hr, hl, hq⟩ := row_open (T := MAct) Try.underlying22 (by kernel_rfl : Try.prog.cellsOf 41 = 7) (by omega) mactC (fun _ => rfl) (MOk W.heap.size W) (fun n cs z hz h => act_open h hz) (y := (d, p)) (by simpa [Value.cells] using hf) hp
  exact ⟨A', l, cap', e, ⟨hr, hq⟩, hl⟩
set_option maxRecDepth 100000 in
theorem crash_open {H : Type} {enc : TypeId × Value → H} {W : World} {base : Nat} {v : Value} {d : DataW H} {p : List MemPlace}
    (hv : Value.okWide Try.prog W .any base 26 v) (h : DataW.Trod enc Try.prog W 0 (fun _ => true) true 26 v d p) (hp : ∀ x ∈ p, x.block < W.heap.size) :
    ∃ c KA kc PA pc, v = craV c KA kc PA pc ∧ CraR W.heap.size W c KA PA := by
  obtain ⟨cs, rfl, hsz⟩ := okWide_struct Try.underlying26 hv
  obtain ⟨fuel, hf⟩ := h
  obtain ⟨c, KA, kc, PA, pc, e, hr, _, _⟩ := cra_open (y := (d, p)) (by simpa [Value.cells] using hf) hp
  refine ⟨c, KA, kc, PA, pc, ?_, hr⟩
  unfold craV
  have : cs = #[.int .i64 c.names, .slice KA c.keep.length kc, .slice PA c.spoil.length pc] := by
    rw [← Array.toList_inj]
    simpa [Value.cells] using e
  rw [this]
end Go.Proofs.Ytkhicfoikkllmaa
