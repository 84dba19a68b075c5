/- A region that draws its order, by tasks: an invariant that sees the operations' values, too. -/
import Derived.Test.YtfnlponoakhegaaDoorM00
namespace Go.Proofs.YtfnlponoakhegaaDoor
open Go.RowKit
set_option linter.unusedVariables false
set_option linter.unusedSimpArgs false
section
variable {P : Program} {Q : Exit → Act → World → Prop}
def OpT3 (P : Program) (a0 : Act) (l : List Oper) (J : (Nat → Bool) → (Nat → Value) → World → Prop) (τ : Nat → Value → World → Prop) (us0 : Nat → Value) (i : Nat) (o : Oper) : Prop :=
  ∀ (d : Nat → Bool) (us : Nat → Value) (w : World), d i = false → J d us w → (∀ k, (∃ e, e ∈ o.after ∧ Region.binds .any e = true ∧ e.on = k) → d k = true ∧ τ k (us k) w) → (∀ k, laterB l i l.length k = true → d k = false ∧ us k = us0 k) → us i = us0 i →
    (Region.wanted o (yielded l.toArray (putAll 0 l us a0).tmps) = true ∧
      ∀ (K : Act → World → Prop) (Q : Exit → Act → World → Prop), (∀ v w', J (setD d i) (updU us i v) w' → τ i v w' → (∀ k u, k ≠ i → τ k u w → τ k u w') → K ((putAll 0 l us a0).put o.dst v) w') → o.wp P (putAll 0 l us a0) w K Q) ∨
    (¬ Region.wanted o (yielded l.toArray (putAll 0 l us a0).tmps) = true ∧ J (setD d i) (updU us i undef) w ∧ τ i undef w)
theorem wp_region_task3 {id : Nat} {a0 : Act} {w0 : World} {l : List Oper} (J : (Nat → Bool) → (Nat → Value) → World → Prop) (τ : Nat → Value → World → Prop) (us0 : Nat → Value)
    (hm : P.follows .mixedOrders = true) (hb : backB l = true)
    (hap : apartB l = true)
    (h0 : putAll 0 l us0 a0 = a0)
    (hst : J (fun _ => false) us0 w0.drew)
    (hop : AllOps (OpT3 P a0 l J τ us0) 0 l)
    (hend : ∀ d us w, J d us w → (∀ i, i < l.length → d i = true ∧ τ i (us i) w) → Q .normal (putAll 0 l us a0) w) : (Code.region id l.toArray true).wp P Q a0 w0 := by
  refine wp_region_inv (fun d us w => J d us w ∧ Shut l d ∧ (∀ k, d k = true → τ k (us k) w) ∧ (∀ k, d k = false → us k = us0 k)) us0 hm hb hap h0 ⟨hst, (fun _ _ _ h => (by cases h)), (fun _ h => (by cases h)), fun _ _ => rfl⟩ ?_ (fun d us w hI hd => hend d us w hI.1 (fun i hi => ⟨hd i hi, hI.2.2.1 i (hd i hi)⟩))
  have shut : ∀ (i : Nat) (o : Oper) (d : Nat → Bool), l[i]? = some o → Shut l d → (∀ k, (∃ e, e ∈ o.after ∧ Region.binds .any e = true ∧ e.on = k) → d k = true) → Shut l (setD d i) := by
    intro i o d hl hs hp k o' ho' hk e he hbd
    unfold setD at hk ⊢
    by_cases hon : e.on = i
    · rw [if_pos hon]
    · rw [if_neg hon]
      by_cases hki : k = i
      · subst hki
        rw [hl] at ho'
        injection ho' with ho'
        subst ho'
        exact hp _ ⟨e, he, hbd, rfl⟩
      · rw [if_neg hki] at hk
        exact hs k o' ho' hk e he hbd
  have conv : ∀ (ll : List Oper) (k : Nat), (∀ j o, ll[j]? = some o → l[k + j]? = some o) → AllOps (OpT3 P a0 l J τ us0) k ll → AllOps (OpInv P a0 l (fun d us w => J d us w ∧ Shut l d ∧ (∀ k, d k = true → τ k (us k) w) ∧ (∀ k, d k = false → us k = us0 k))) k ll := by
    intro ll
    induction ll with
    | nil => exact fun _ _ _ => trivial
    | cons o ll ih =>
      rintro k hat ⟨h1, h2⟩
      refine ⟨?_, ih (k + 1) (fun j o' h => by have := hat (j + 1) o' (by simpa using h); rwa [show k + (j + 1) = k + 1 + j from by omega] at this) h2⟩
      rintro d us w ⟨hJ, hs, ht, hu⟩ hd hp us' rfl
      have hlk : l[k]? = some o := by simpa using hat 0 o (by simp)
      have hs' := shut k o d hlk hs hp
      rcases h1 d us' w hd hJ (fun j hj => ⟨hp j hj, ht j (hp j hj)⟩) (fun j hj => have := laterB_not hs hd _ _ hj; ⟨this, hu j this⟩) (hu k hd) with ⟨hw, h⟩ | ⟨hw, hJ', ht'⟩
      · refine .inl ⟨hw, fun K Q hK => h K Q fun v w' hj hv hmono => hK v w' ⟨hj, hs', fun j hj => ?_, fun j hj => ?_⟩⟩
        · unfold setD at hj
          unfold updU
          by_cases hjk : j = k
          · subst hjk; rw [if_pos rfl]; exact hv
          · rw [if_neg hjk] at hj ⊢; exact hmono _ _ hjk (ht j hj)
        · unfold setD at hj
          unfold updU
          by_cases hjk : j = k
          · rw [if_pos hjk] at hj; cases hj
          · rw [if_neg hjk] at hj ⊢; exact hu j hj
      · refine .inr ⟨hw, hJ', hs', fun j hj => ?_, fun j hj => ?_⟩
        · unfold setD at hj
          unfold updU
          by_cases hjk : j = k
          · subst hjk; rw [if_pos rfl]; exact ht'
          · rw [if_neg hjk] at hj ⊢; exact ht j hj
        · unfold setD at hj
          unfold updU
          by_cases hjk : j = k
          · rw [if_pos hjk] at hj; cases hj
          · rw [if_neg hjk] at hj ⊢; exact hu j hj
  exact conv l 0 (fun j o h => by simpa using h) hop
end
/-- Memory has grown; and the block that operation ia has made holds e once operation iz is done. -/
def AJ (w0 : World) (ia iz : Nat) (T : TypeId) (z e : Array Value) (d : Nat → Bool) (us : Nat → Value) (w : World) : Prop :=
  Below w0.heap.size w0 w ∧ (d ia = true → ∃ b, us ia = .pointer (some ⟨b, 0, none⟩) ∧ w0.heap.size ≤ b ∧ Blk w b T (if d iz = true then e else z))
section
variable {w0 w w' : World} {ia iz : Nat} {T : TypeId} {z e : Array Value} {d : Nat → Bool} {us : Nat → Value}
theorem AJ.start (hne : ia ≠ iz) : AJ w0 ia iz T z e (fun _ => false) us w0.drew := ⟨(Below.refl _ _).drew, fun h => by cases h⟩
theorem AJ.cell (h : AJ w0 ia iz T z e d us w) {b o : Nat} {v : Value} (hb : b < w0.heap.size) (hc : w0.cell? ⟨b, o, none⟩ = some v) : w.cell? ⟨b, o, none⟩ = some v := (h.1.cell (p := ⟨b, o, none⟩) hb).trans hc
theorem AJ.other (h : AJ w0 ia iz T z e d us w) (i : Nat) (h1 : i ≠ ia) (h2 : i ≠ iz) {v : Value} : AJ w0 ia iz T z e (setD d i) (updU us i v) w := by
  refine ⟨h.1, fun hd => ?_⟩
  unfold setD at hd ⊢
  unfold updU
  rw [if_neg (Ne.symm h1)] at hd
  rw [if_neg (Ne.symm h1), if_neg (Ne.symm h2)]
  exact h.2 hd
theorem AJ.grow (h : AJ w0 ia iz T z e d us w) (hb : Below w.heap.size w w') : AJ w0 ia iz T z e d us w' := by
  refine ⟨h.1.trans (hb.mono h.1.size), fun hd => ?_⟩
  obtain ⟨b, h1, h2, h3⟩ := h.2 hd
  exact ⟨b, h1, h2, h3.below hb h3.lt⟩
theorem AJ.made (h : AJ w0 ia iz T z e d us w) (hne : ia ≠ iz) (hz : d iz = false) : AJ w0 ia iz T z e (setD d ia) (updU us ia (.pointer (some ⟨w.heap.size, 0, none⟩))) (w.alloc (.cells z T)) := by
  refine ⟨h.1.alloc h.1.size _, fun _ => ⟨w.heap.size, by unfold updU; rw [if_pos rfl], h.1.size, ?_⟩⟩
  unfold setD
  rw [if_neg (Ne.symm hne), if_neg (by rw [hz]; decide)]
  exact Blk.new _ _ _
theorem AJ.at_ (h : AJ w0 ia iz T z e d us w) (hd : d ia = true) (hz : d iz = false) : ∃ b, us ia = .pointer (some ⟨b, 0, none⟩) ∧ w0.heap.size ≤ b ∧ Blk w b T z := by
  have := h.2 hd
  rw [if_neg (by rw [hz]; decide)] at this
  exact this
theorem AJ.stored (h : AJ w0 ia iz T z e d us w) (hne : ia ≠ iz) {b : Nat} (hu : us ia = .pointer (some ⟨b, 0, none⟩)) (hb : w0.heap.size ≤ b) (hw : Below w0.heap.size w0 w') (hx : Blk w' b T e) {v : Value} : AJ w0 ia iz T z e (setD d iz) (updU us iz v) w' := by
  refine ⟨hw, fun hd => ⟨b, ?_, hb, ?_⟩⟩
  · unfold updU
    rw [if_neg hne]
    exact hu
  · unfold setD
    rw [if_pos rfl, if_pos rfl]
    exact hx
theorem AJ.end_ (h : AJ w0 ia iz T z e d us w) (h1 : d ia = true) (h2 : d iz = true) : Below w0.heap.size w0 w ∧ ∃ b, us ia = .pointer (some ⟨b, 0, none⟩) ∧ w0.heap.size ≤ b ∧ Blk w b T e := by
  have := h.2 h1
  rw [if_pos h2] at this
  exact ⟨h.1, this⟩
end
end Go.Proofs.YtfnlponoakhegaaDoor
