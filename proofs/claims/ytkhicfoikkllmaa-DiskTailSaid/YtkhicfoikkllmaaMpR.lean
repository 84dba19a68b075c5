/- A range over a map of names: one entry after the other, each once. -/
import Derived.Test.YtkhicfoikkllmaaOwn
import Derived.LoopTactic
namespace Go.Proofs.Ytkhicfoikkllmaa
open Go.RowKit
set_option linter.unusedVariables false
set_option linter.unusedSimpArgs false
theorem nm_key_inv {P : Program} {k : TypeId} (hk : P.underlying k = some .string) {v : Value} {kl : Lit} (h : keyOf P k v = some kl) : ∃ s : ByteArray, v = .string s ∧ kl = .string s.data.toList ∧ s.size ≤ maxLen := by
  cases v <;> simp [keyOf, hk, mapKey] at h
  rename_i s
  exact ⟨s, rfl, h.2.symm, h.1⟩
theorem ptrR_shape {v : Value} {y : DataW Unit × List MemPlace} (h : ptrR v = some y) : ∃ c : Option Nat, v = ptrV c := by
  unfold ptrR at h
  split at h
  · rename_i b; exact ⟨some b, rfl⟩
  · exact ⟨none, rfl⟩
  · cases h
section
variable {P : Program} (w : World) {ops : Array Oper} {rest : List Oper} {o : Oper} {a : Act} {Q : Exit → Act → World → Prop}
theorem wpList_nm_range (hgd : o.guard = none) (mo : Operand) (t : TypeId) (hop : o.op = Op.range t mo) (k e : TypeId) (hk : P.underlying k = some .string) (ht : P.underlying t = some (.map k e)) (g : Nat) (m : NM)
    (hm : a.eval mo = .map (some g)) (h : MapAt P k w g m)
    (hK : ∀ w', w'.ranges P k ptrR g w.heap.size m.length (nmD m) (Maps.has (nmD m)) (Maps.size (nmD m)) → w.grownBy w' none → w'.heap.size = w.heap.size + 1 → wpList P ops Q rest (a.put o.dst (.pointer (some ⟨w.heap.size, 0, none⟩))) w') : wpList P ops Q (o :: rest) a w :=
  wpList_range_own w hgd mo t hop k e (Maps.string_keyed hk) ht ptrR g m.length (nmD m) hm h hK
theorem wpList_nm_next (hgd : o.guard = none) (it : Operand) (hop : o.op = Op.next it false) (k : TypeId) (hk : P.underlying k = some .string) (g r : Nat) (m : NM) (left : Lit → Bool) (cnt : Nat)
    (hit : a.eval it = .pointer (some ⟨r, 0, none⟩)) (h : w.ranges P k ptrR g r m.length (nmD m) left cnt)
    (hDone : cnt = 0 → (∀ kl, left kl = false) → wpList P ops Q rest (a.put o.dst (.tuple #[.bool false])) w)
    (hMore : ∀ (x : ByteArray) (b : Nat) (w' : World) (cnt' : Nat), getM x.data.toList m = some b → left (.string x.data.toList) = true → w'.ranges P k ptrR g r m.length (nmD m) (fun z => left z && !z.sameKey (.string x.data.toList)) cnt' → cnt' < cnt →
      w.grownBy w' (some r) → w'.heap.size = w.heap.size → (Instr.entry (.pointer (some ⟨r, 0, none⟩))).run P w' = .ok (.tuple #[.string x, .pointer (some ⟨b, 0, none⟩)]) w' → wpList P ops Q rest (a.put o.dst (.tuple #[.bool true, .string x, .pointer (some ⟨b, 0, none⟩)])) w') : wpList P ops Q (o :: rest) a w := by
  refine wpList_next_ranges (β := Option Nat) w hgd it hop k (Maps.string_keyed hk) ptrR Value.string ptrV (fun key kl hkey => by obtain ⟨s, e, _⟩ := nm_key_inv hk hkey; exact ⟨s, e⟩) (fun v y hv => ptrR_shape hv) g r m.length (nmD m) left cnt hit h hDone ?_
  intro x c kl y w' cnt' hkey hlk hR hat hrg hlt hgr hsz hen
  obtain ⟨s, e1, rfl, _⟩ := nm_key_inv hk hkey
  injection e1 with e1
  subst e1
  have h1 := hat .nil
  have h2 := hat (.lit (.bool true))
  rw [nmD_at] at h1 h2
  cases hg : getM x.data.toList m with
  | none =>
    rw [hg] at h1 h2
    simp only [] at h1 h2
    rw [← h1] at h2
    cases h2
  | some b =>
    rw [hg] at h1
    simp only [] at h1
    obtain ⟨y1, y2⟩ := y
    simp only [] at h1
    subst h1
    have := ptrR_some hR
    rw [this] at hen ⊢
    exact hMore x b w' cnt' hg hlk hrg hlt hgr hsz hen
end
theorem MapAt.keys {P : Program} {k : TypeId} {w : World} {g : Nat} {m : NM} (h : MapAt P k w g m) (hk : P.underlying k = some .string) : m.Pairwise (fun p q => p.1 ≠ q.1) := by
  obtain ⟨es, e, hp, _⟩ := World.ownsMap.entries h (Maps.string_keyed hk)
  unfold nmD at e
  injection e with e
  subst e
  rw [List.pairwise_map] at hp
  exact hp.imp fun {a b} hab e => hab (by unfold nmE; simp only [e])
theorem sum_step (val : Nat → Nat) (left : List UInt8 → Bool) (k : List UInt8) (i : Nat) (hl : left k = true) : ∀ m : NM, m.Pairwise (fun p q => p.1 ≠ q.1) → getM k m = some i →
    ((m.filter fun p => !(left p.1 && !(p.1 == k))).map fun p => val p.2).sum = ((m.filter fun p => !left p.1).map fun p => val p.2).sum + val i
  | [], _, hg => by cases hg
  | p :: m, hp, hg => by
    obtain ⟨hp1, hp2⟩ := List.pairwise_cons.1 hp
    by_cases e : p.1 = k
    · have hi : p.2 = i := by
        unfold getM at hg
        rw [List.find?_cons] at hg
        simpa [e] using hg
      have hrest : m.filter (fun p => !(left p.1 && !(p.1 == k))) = m.filter fun p => !left p.1 := by
        refine List.filter_congr fun q hq => ?_
        have : q.1 ≠ k := fun e2 => hp1 q hq (by rw [e, e2])
        simp [this]
      rw [List.filter_cons, List.filter_cons, hrest]
      simp [e, hl, hi]
      omega
    · have hg2 : getM k m = some i := by
        unfold getM at hg ⊢
        rw [List.find?_cons, show (p.1 == k) = false from by simpa using e] at hg
        exact hg
      have ih := sum_step val left k i hl m hp2 hg2
      rw [List.filter_cons, List.filter_cons]
      cases hlp : left p.1
      · simp [hlp]
        simp at ih
        omega
      · simp [hlp, e]
        simpa using ih
theorem sum_none (val : Nat → Nat) (left : List UInt8 → Bool) (m : NM) (h : ∀ p ∈ m, left p.1 = true) : ((m.filter fun p => !left p.1).map fun p => val p.2).sum = 0 := by
  have : m.filter (fun p => !left p.1) = [] := by
    rw [List.filter_eq_nil_iff]
    intro p hp
    simp [h p hp]
  rw [this]
  rfl
theorem sum_all (val : Nat → Nat) (left : List UInt8 → Bool) (m : NM) (h : ∀ k, left k = false) : ((m.filter fun p => !left p.1).map fun p => val p.2).sum = (m.map fun p => val p.2).sum := by
  have : m.filter (fun p => !left p.1) = m := by
    rw [List.filter_eq_self]
    intro p hp
    simp [h p.1]
  rw [this]
theorem sum_le (val : Nat → Nat) (B : Nat) (h : ∀ i, val i ≤ B) (f : List UInt8 × Nat → Bool) : ∀ m : NM, ((m.filter f).map fun p => val p.2).sum ≤ m.length * B
  | [] => by simp
  | p :: m => by
    have ih := sum_le val B h f m
    have := h p.2
    rw [List.filter_cons, List.length_cons, Nat.add_mul, Nat.one_mul]
    split
    · simp; omega
    · omega
end Go.Proofs.Ytkhicfoikkllmaa
