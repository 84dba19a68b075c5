/- A region that draws its order, whatever its operations do: each operation leaves a value of its own kind, and keeps the others'. -/
import Derived.Test.YtkhicfoikkllmaaRows
import Derived.WalkKit
import Derived.Orders
import Derived.RegionTactic
namespace Go.Proofs.Ytkhicfoikkllmaa
open Go.RowKit
set_option linter.unusedVariables false
set_option linter.unusedSimpArgs false

section
variable {P : Program} {ops : Array Oper} {Q : Exit → Act → World → Prop}

/-- The frame in which operation k's slot holds 'us k'. -/
def putAll : Nat → List Oper → (Nat → Value) → Act → Act
  | _, [], _, a => a
  | k, o :: l, us, a => putAll (k + 1) l us (a.put o.dst (us k))
def updU (us : Nat → Value) (i : Nat) (v : Value) : Nat → Value := fun k => if k = i then v else us k

def AllOps (H : Nat → Oper → Prop) : Nat → List Oper → Prop
  | _, [] => True
  | k, o :: l => H k o ∧ AllOps H (k + 1) l
theorem AllOps.at_ {H : Nat → Oper → Prop} : ∀ (l : List Oper) (k : Nat), AllOps H k l → ∀ j o, l[j]? = some o → H (k + j) o
  | [], _, _, j, o, h => by simp at h
  | x :: l, k, hh, 0, o, h => by simp at h; subst h; exact hh.1
  | x :: l, k, hh, j + 1, o, h => by
    have := AllOps.at_ l (k + 1) hh.2 j o (by simpa using h)
    rwa [show k + 1 + j = k + (j + 1) from by omega] at this

/-- Every edge leads back. -/
def backB (ops : List Oper) : Bool := (ops.zipIdx).all fun (o, i) => o.after.all fun e => !Region.binds .any e || decide (e.on < i)
theorem ready_none {ops : Array Oper} (hb : backB ops.toList = true) {listed : Array Bool} (hs : listed.size = ops.size) (h : Region.ready .any ops listed = []) : ∀ i, i < ops.size → listed.getD i false = true := by
  intro i
  induction i using Nat.strongRecOn with
  | ind i ih =>
    intro hi
    rcases Bool.eq_false_or_eq_true (listed.getD i false) with hl | hl
    · exact hl
    · exfalso
      have hm : i ∈ Region.ready .any ops listed := by
        rw [mem_ready]
        refine ⟨?_, ops[i], Array.getElem?_eq_getElem hi, ?_⟩
        · have : i < listed.size := by omega
          simp [Array.getD, this] at hl ⊢
          exact hl
        · intro e he hbind
          unfold backB at hb
          rw [List.all_eq_true] at hb
          have h1 := hb (ops[i], i) (by rw [List.mem_zipIdx_iff_getElem?]; simp [hi])
          simp only [Array.all_eq_true_iff_forall_mem] at h1
          have h2 := h1 e he
          simp [hbind] at h2
          exact ih e.on h2 (by omega)
      rw [h] at hm
      cases hm

/-- No two operations write one slot. -/
def dstNe (a b : Option Tmp) : Bool := match a, b with
  | some x, some y => x != y
  | _, _ => true
def apartB : List Oper → Bool
  | [] => true
  | o :: l => (l.all fun p => dstNe o.dst p.dst) && apartB l
theorem put_comm2 (a : Act) (d e : Option Tmp) (v u : Value) (h : dstNe d e = true) : (a.put d v).put e u = (a.put e u).put d v := by
  cases d <;> cases e <;> simp [Act.put]
  rename_i x y
  have : x ≠ y := by simpa [dstNe] using h
  rw [Array.setIfInBounds_comm _ _ this]
theorem put_put (a : Act) (d : Option Tmp) (v u : Value) : (a.put d v).put d u = a.put d u := by
  cases d <;> simp [Act.put]
theorem putAll_congr : ∀ (l : List Oper) (k : Nat) (us us' : Nat → Value) (a : Act), (∀ j, k ≤ j → us j = us' j) → putAll k l us a = putAll k l us' a
  | [], _, _, _, _, _ => rfl
  | o :: l, k, us, us', a, h => by
    unfold putAll
    rw [h k (Nat.le_refl _)]
    exact putAll_congr l (k + 1) us us' _ (fun j hj => h j (by omega))
theorem putAll_out : ∀ (l : List Oper) (k : Nat) (us : Nat → Value) (a : Act) (d : Option Tmp) (v : Value), (l.all fun p => dstNe d p.dst) = true → (putAll k l us a).put d v = putAll k l us (a.put d v)
  | [], _, _, _, _, _, _ => rfl
  | o :: l, k, us, a, d, v, h => by
    simp only [List.all_cons, Bool.and_eq_true] at h
    unfold putAll
    rw [putAll_out l (k + 1) us _ d v h.2, put_comm2 a d o.dst v (us k) h.1]
theorem putAll_put : ∀ (l : List Oper) (k : Nat) (us : Nat → Value) (a : Act) (i : Nat) (o : Oper) (v : Value), apartB l = true → l[i]? = some o → (putAll k l us a).put o.dst v = putAll k l (updU us (k + i) v) a
  | [], _, _, _, _, _, _, _, h => by simp at h
  | x :: l, k, us, a, 0, o, v, hb, h => by
    simp at h
    subst h
    simp only [apartB, Bool.and_eq_true] at hb
    unfold putAll
    rw [putAll_out l (k + 1) us _ x.dst v hb.1, put_put, putAll_congr l (k + 1) us (updU us (k + 0) v) _ (fun j hj => by unfold updU; rw [if_neg (by omega)])]
    simp [updU]
  | x :: l, k, us, a, i + 1, o, v, hb, h => by
    simp only [apartB, Bool.and_eq_true] at hb
    unfold putAll
    rw [putAll_put l (k + 1) us _ i o v hb.2 (by simpa using h)]
    have e1 : updU us (k + (i + 1)) v k = us k := by unfold updU; rw [if_neg (by omega)]
    rw [e1, show k + 1 + i = k + (i + 1) from by omega]

theorem count_set : ∀ (l : List Bool) (i : Nat), l[i]? = some false → (l.set i true).count false + 1 = l.count false
  | [], i, h => by simp at h
  | b :: l, 0, h => by simp at h; subst h; simp
  | b :: l, i + 1, h => by
    have := count_set l i (by simpa using h)
    simp only [List.set_cons_succ, List.count_cons]
    omega

theorem wp_region_typed {id : Nat} {a0 : Act} {w0 : World} {l : List Oper} (R : World → World → Prop) (τ : Nat → Value → World → Prop) (us0 : Nat → Value)
    (hm : P.follows .mixedOrders = true) (hb : backB l = true)
    (hap : apartB l = true)
    (hrefl : R w0 w0.drew) (hreflw : ∀ w, R w w) (htrans : ∀ a b c, R a b → R b c → R a c)
    (h0 : putAll 0 l us0 a0 = a0)
    (hmono : ∀ k v w w', τ k v w → R w w' → τ k v w')
    (hop : AllOps (fun i o => ∀ us w, R w0 w → (∀ k, (∃ e, e ∈ o.after ∧ Region.binds .any e = true ∧ e.on = k) → τ k (us k) w) →
      if Region.wanted o (yielded l.toArray (putAll 0 l us a0).tmps) = true then o.wp P (putAll 0 l us a0) w (fun a' w' => ∃ v, a' = (putAll 0 l us a0).put o.dst v ∧ R w w' ∧ τ i v w') Q else τ i undef w) 0 l)
    (hend : ∀ us w, R w0 w → (∀ i, i < l.length → τ i (us i) w) → Q .normal (putAll 0 l us a0) w) : (Code.region id l.toArray true).wp P Q a0 w0 := by
  have hF : ∀ us i o v, l[i]? = some o → (putAll 0 l us a0).put o.dst v = putAll 0 l (updU us i v) a0 := fun us i o v h => by
    have := putAll_put l 0 us a0 i o v hap h
    rwa [Nat.zero_add] at this
  have key : ∀ (fuel : Nat) (listed : Array Bool) (us : Nat → Value) (w : World), listed.size = l.length → listed.toList.count false ≤ fuel → R w0 w → (∀ i, listed.getD i false = true → τ i (us i) w) →
      wpAny P .any l.toArray Q fuel listed (putAll 0 l us a0) w := by
    intro fuel
    induction fuel with
    | zero =>
      intro listed us w hs hc hR ht
      have hall : ∀ i, i < l.length → listed.getD i false = true := by
        intro i hi
        have h1 : i < listed.size := by omega
        have h2 : listed.toList.count false = 0 := by omega
        rw [List.count_eq_zero] at h2
        have h3 : listed[i] ≠ false := fun e => h2 (by rw [← e]; exact Array.getElem_mem_toList h1)
        simp [Array.getD, h1]
        simpa using h3
      refine ⟨?_, hend us w hR (fun i hi => ht i (hall i hi))⟩
      rw [List.eq_nil_iff_forall_not_mem]
      intro i hi
      rw [mem_ready] at hi
      have h1 : i < listed.size := by
        rcases Nat.lt_or_ge i listed.size with h | h
        · exact h
        · have := hi.1
          simp [Array.getD, Nat.not_lt.2 h] at this
      have h2 := hall i (by omega)
      have h3 := hi.1
      simp [Array.getD, h1] at h2 h3
      rw [h2] at h3
      cases h3
    | succ fuel ih =>
      intro listed us w hs hc hR ht
      refine ⟨fun h => hend us w hR (fun i hi => ht i (ready_none (ops := l.toArray) (by simpa using hb) (by simpa using hs) h i (by simpa using hi))), fun i hi => ?_⟩
      rw [mem_ready] at hi
      obtain ⟨hun, o, ho, hedge⟩ := hi
      have hl : l[i]? = some o := by simpa using ho
      have h1 : i < listed.size := by
        rw [hs]
        exact (List.getElem?_eq_some_iff.1 hl).1
      have hun' : listed[i] = false := by simpa [Array.getD, h1] using hun
      have hop' := AllOps.at_ l 0 hop i o hl
      rw [Nat.zero_add] at hop'
      have hop2 := hop' us w hR (fun k ⟨e, he, hbd, hk⟩ => hk ▸ ht _ (hedge e he hbd))
      have next : ∀ v w', R w w' → τ i v w' → wpAny P .any l.toArray Q fuel (listed.setIfInBounds i true) ((putAll 0 l us a0).put o.dst v) w' := by
        intro v w' hR' hv
        rw [hF us i o v hl]
        refine ih _ _ _ (by simpa using hs) ?_ (htrans _ _ _ hR hR') (fun k hk => ?_)
        · have := count_set listed.toList i (by rw [Array.getElem?_toList, Array.getElem?_eq_getElem h1, hun'])
          rw [Array.toList_setIfInBounds]
          omega
        · unfold updU
          by_cases hki : k = i
          · subst hki
            rw [if_pos rfl]
            exact hv
          · rw [if_neg hki]
            refine hmono _ _ _ _ (ht k ?_) hR'
            have : i ≠ k := fun e => hki e.symm
            simp only [Array.getD_eq_getD_getElem?, Array.getElem?_setIfInBounds_ne this] at hk ⊢
            exact hk
      unfold wpOp
      simp only [ho]
      by_cases hw : Region.wanted o (yielded l.toArray (putAll 0 l us a0).tmps) = true
      · rw [if_pos hw] at hop2 ⊢
        refine .inl (Oper.wp_mono ?_ hop2)
        rintro a' w' ⟨v, rfl, hR', hv⟩
        exact next v w' hR' hv
      · rw [if_neg hw] at hop2 ⊢
        exact next undef w (hreflw w) hop2
  have hfin := key l.toArray.size (Array.replicate l.toArray.size false) us0 w0.drew (by simp) (by simp) hrefl (fun i hi => by
    exfalso
    by_cases h : i < l.toArray.size
    · simp [Array.getD, h] at hi
    · simp [Array.getD, h] at hi)
  rw [h0] at hfin
  exact wp_region_any hm hfin
/-- The same rule, an operation's goal freed of the rest of the function: any continuation, any ending. -/
def OpOk (P : Program) (a0 : Act) (w0 : World) (l : List Oper) (R : World → World → Prop) (τ : Nat → Value → World → Prop) (us0 : Nat → Value) (i : Nat) (o : Oper) : Prop :=
  ∀ (us : Nat → Value) (w : World), R w0 w → (∀ k, (∃ e, e ∈ o.after ∧ Region.binds .any e = true ∧ e.on = k) → τ k (us k) w) →
    (Region.wanted o (yielded l.toArray (putAll 0 l us a0).tmps) = true ∧
      ∀ (K : Act → World → Prop) (Q : Exit → Act → World → Prop), (∀ v w', R w w' → τ i v w' → K ((putAll 0 l us a0).put o.dst v) w') → o.wp P (putAll 0 l us a0) w K Q) ∨
    (¬ Region.wanted o (yielded l.toArray (putAll 0 l us a0).tmps) = true ∧ τ i undef w)
theorem wp_region_ops {id : Nat} {a0 : Act} {w0 : World} {l : List Oper} (R : World → World → Prop) (τ : Nat → Value → World → Prop) (us0 : Nat → Value)
    (hm : P.follows .mixedOrders = true) (hb : backB l = true)
    (hap : apartB l = true)
    (hrefl : R w0 w0.drew) (hreflw : ∀ w, R w w) (htrans : ∀ a b c, R a b → R b c → R a c)
    (h0 : putAll 0 l us0 a0 = a0)
    (hmono : ∀ k v w w', τ k v w → R w w' → τ k v w')
    (hop : AllOps (OpOk P a0 w0 l R τ us0) 0 l)
    (hend : ∀ us w, R w0 w → (∀ i, i < l.length → τ i (us i) w) → Q .normal (putAll 0 l us a0) w) : (Code.region id l.toArray true).wp P Q a0 w0 := by
  refine wp_region_typed R τ us0 hm hb hap hrefl hreflw htrans h0 hmono ?_ hend
  have conv : ∀ (ll : List Oper) (k : Nat), AllOps (OpOk P a0 w0 l R τ us0) k ll → AllOps (fun i o => ∀ us w, R w0 w → (∀ k, (∃ e, e ∈ o.after ∧ Region.binds .any e = true ∧ e.on = k) → τ k (us k) w) →
      if Region.wanted o (yielded l.toArray (putAll 0 l us a0).tmps) = true then o.wp P (putAll 0 l us a0) w (fun a' w' => ∃ v, a' = (putAll 0 l us a0).put o.dst v ∧ R w w' ∧ τ i v w') Q else τ i undef w) k ll := by
    intro ll
    induction ll with
    | nil => exact fun _ _ => trivial
    | cons o ll ih =>
      rintro k ⟨h1, h2⟩
      refine ⟨fun us w hR hp => ?_, ih _ h2⟩
      rcases h1 us w hR hp with ⟨hw, h⟩ | ⟨hw, h⟩
      · rw [if_pos hw]
        exact h _ _ (fun v w' hr ht => ⟨v, rfl, hr, ht⟩)
      · rw [if_neg hw]
        exact h
  exact conv l 0 hop

/-- The most general rule: an invariant that may know which operations have come up. -/
def setD (d : Nat → Bool) (i : Nat) : Nat → Bool := fun k => if k = i then true else d k
def OpInv (P : Program) (a0 : Act) (l : List Oper) (I : (Nat → Bool) → (Nat → Value) → World → Prop) (i : Nat) (o : Oper) : Prop :=
  ∀ (d : Nat → Bool) (us : Nat → Value) (w : World), I d us w → d i = false → (∀ k, (∃ e, e ∈ o.after ∧ Region.binds .any e = true ∧ e.on = k) → d k = true) →
    ∀ us' : Nat → Value, us' = us → (Region.wanted o (yielded l.toArray (putAll 0 l us' a0).tmps) = true ∧
      ∀ (K : Act → World → Prop) (Q : Exit → Act → World → Prop), (∀ v w', I (setD d i) (updU us i v) w' → K ((putAll 0 l us a0).put o.dst v) w') → o.wp P (putAll 0 l us a0) w K Q) ∨
    (¬ Region.wanted o (yielded l.toArray (putAll 0 l us' a0).tmps) = true ∧ I (setD d i) (updU us i undef) w)
theorem wp_region_inv {id : Nat} {a0 : Act} {w0 : World} {l : List Oper} (I : (Nat → Bool) → (Nat → Value) → World → Prop) (us0 : Nat → Value)
    (hm : P.follows .mixedOrders = true) (hb : backB l = true)
    (hap : apartB l = true)
    (h0 : putAll 0 l us0 a0 = a0)
    (hst : I (fun _ => false) us0 w0.drew)
    (hop : AllOps (OpInv P a0 l I) 0 l)
    (hend : ∀ d us w, I d us w → (∀ i, i < l.length → d i = true) → Q .normal (putAll 0 l us a0) w) : (Code.region id l.toArray true).wp P Q a0 w0 := by
  have hF : ∀ us i o v, l[i]? = some o → (putAll 0 l us a0).put o.dst v = putAll 0 l (updU us i v) a0 := fun us i o v h => by
    have := putAll_put l 0 us a0 i o v hap h
    rwa [Nat.zero_add] at this
  have key : ∀ (fuel : Nat) (listed : Array Bool) (us : Nat → Value) (w : World), listed.size = l.length → listed.toList.count false ≤ fuel → I (fun k => listed.getD k false) us w →
      wpAny P .any l.toArray Q fuel listed (putAll 0 l us a0) w := by
    intro fuel
    induction fuel with
    | zero =>
      intro listed us w hs hc hI
      have hall : ∀ i, i < l.length → listed.getD i false = true := by
        intro i hi
        have h1 : i < listed.size := by omega
        have h2 : listed.toList.count false = 0 := by omega
        rw [List.count_eq_zero] at h2
        have h3 : listed[i] ≠ false := fun e => h2 (by rw [← e]; exact Array.getElem_mem_toList h1)
        simp [Array.getD, h1]
        simpa using h3
      refine ⟨?_, hend _ us w hI (fun i hi => hall i hi)⟩
      rw [List.eq_nil_iff_forall_not_mem]
      intro i hi
      rw [mem_ready] at hi
      have h1 : i < listed.size := by
        rcases Nat.lt_or_ge i listed.size with h | h
        · exact h
        · have := hi.1
          simp [Array.getD, Nat.not_lt.2 h] at this
      have h2 := hall i (by omega)
      have h3 := hi.1
      simp [Array.getD, h1] at h2 h3
      rw [h2] at h3
      cases h3
    | succ fuel ih =>
      intro listed us w hs hc hI
      refine ⟨fun h => hend _ us w hI (fun i hi => ready_none (ops := l.toArray) (by simpa using hb) (by simpa using hs) h i (by simpa using hi)), fun i hi => ?_⟩
      rw [mem_ready] at hi
      obtain ⟨hun, o, ho, hedge⟩ := hi
      have hl : l[i]? = some o := by simpa using ho
      have h1 : i < listed.size := by
        rw [hs]
        exact (List.getElem?_eq_some_iff.1 hl).1
      have hun' : listed[i] = false := by simpa [Array.getD, h1] using hun
      have hop' := AllOps.at_ l 0 hop i o hl
      rw [Nat.zero_add] at hop'
      have hop2 := hop' _ us w hI (by simp [Array.getD, h1, hun']) (fun k ⟨e, he, hbd, hk⟩ => hk ▸ hedge e he hbd) us rfl
      have hset : (fun k => (listed.setIfInBounds i true).getD k false) = setD (fun k => listed.getD k false) i := by
        funext k
        unfold setD
        by_cases hki : k = i
        · subst hki
          simp [Array.getD, h1]
        · have : i ≠ k := fun e => hki e.symm
          rw [if_neg hki]
          simp only [Array.getD_eq_getD_getElem?, Array.getElem?_setIfInBounds_ne this]
      have next : ∀ v w', I (setD (fun k => listed.getD k false) i) (updU us i v) w' → wpAny P .any l.toArray Q fuel (listed.setIfInBounds i true) ((putAll 0 l us a0).put o.dst v) w' := by
        intro v w' hI'
        rw [hF us i o v hl]
        refine ih _ _ _ (by simpa using hs) ?_ (by rw [hset]; exact hI')
        have := count_set listed.toList i (by rw [Array.getElem?_toList, Array.getElem?_eq_getElem h1, hun'])
        rw [Array.toList_setIfInBounds]
        omega
      unfold wpOp
      simp only [ho]
      rcases hop2 with ⟨hw, h⟩ | ⟨hw, h⟩
      · rw [if_pos hw]
        exact .inl (h _ _ (fun v w' h => next v w' h))
      · rw [if_neg hw]
        exact next undef w h
  have hfin := key l.toArray.size (Array.replicate l.toArray.size false) us0 w0.drew (by simp) (by simp) (by
    have : (fun k => (Array.replicate l.toArray.size false).getD k false) = (fun _ => false) := by
      funext k
      by_cases h : k < l.toArray.size
      · simp [Array.getD, h]
      · simp [Array.getD, h]
    rw [this]
    exact hst)
  rw [h0] at hfin
  exact wp_region_any hm hfin

/-- Does operation k wait (through others too) for operation i? -/
def laterB (l : List Oper) (i : Nat) : Nat → Nat → Bool
  | 0, _ => false
  | f + 1, k => match l[k]? with
    | none => false
    | some o => o.after.toList.any fun e => Region.binds .any e && (e.on == i || laterB l i f e.on)
def Shut (l : List Oper) (d : Nat → Bool) : Prop := ∀ k o, l[k]? = some o → d k = true → ∀ e, e ∈ o.after → Region.binds .any e = true → d e.on = true
theorem laterB_not {l : List Oper} {d : Nat → Bool} {i : Nat} (hs : Shut l d) (hi : d i = false) : ∀ f k, laterB l i f k = true → d k = false
  | 0, _, h => by simp [laterB] at h
  | f + 1, k, h => by
    unfold laterB at h
    cases ho : l[k]? with
    | none => rw [ho] at h; simp at h
    | some o =>
      rw [ho] at h
      simp only [List.any_eq_true, Bool.and_eq_true, Bool.or_eq_true, beq_iff_eq] at h
      obtain ⟨e, he0, hb, h1⟩ := h
      have he : e ∈ o.after := by simpa using he0
      rcases Bool.eq_false_or_eq_true (d k) with hk | hk
      · have h2 := hs k o ho hk e he hb
        rcases h1 with h1 | h1
        · rw [h1, hi] at h2; cases h2
        · rw [laterB_not hs hi f e.on h1] at h2; cases h2
      · exact hk
def OpT (P : Program) (a0 : Act) (l : List Oper) (J : (Nat → Bool) → World → Prop) (τ : Nat → Value → World → Prop) (us0 : Nat → Value) (i : Nat) (o : Oper) : Prop :=
  ∀ (d : Nat → Bool) (us : Nat → Value) (w : World), d i = false → J d w → (∀ k, (∃ e, e ∈ o.after ∧ Region.binds .any e = true ∧ e.on = k) → d k = true ∧ τ k (us k) w) → (∀ k, laterB l i l.length k = true → d k = false ∧ us k = us0 k) → us i = us0 i →
    (Region.wanted o (yielded l.toArray (putAll 0 l us a0).tmps) = true ∧
      ∀ (K : Act → World → Prop) (Q : Exit → Act → World → Prop), (∀ v w', J (setD d i) w' → τ i v w' → (∀ k u, k ≠ i → τ k u w → τ k u w') → K ((putAll 0 l us a0).put o.dst v) w') → o.wp P (putAll 0 l us a0) w K Q) ∨
    (¬ Region.wanted o (yielded l.toArray (putAll 0 l us a0).tmps) = true ∧ J (setD d i) w ∧ τ i undef w)
theorem wp_region_task {id : Nat} {a0 : Act} {w0 : World} {l : List Oper} (J : (Nat → Bool) → World → Prop) (τ : Nat → Value → World → Prop) (us0 : Nat → Value)
    (hm : P.follows .mixedOrders = true) (hb : backB l = true)
    (hap : apartB l = true)
    (h0 : putAll 0 l us0 a0 = a0)
    (hst : J (fun _ => false) w0.drew)
    (hop : AllOps (OpT P a0 l J τ us0) 0 l)
    (hend : ∀ d us w, J d w → (∀ i, i < l.length → d i = true ∧ τ i (us i) w) → Q .normal (putAll 0 l us a0) w) : (Code.region id l.toArray true).wp P Q a0 w0 := by
  refine wp_region_inv (fun d us w => J d w ∧ Shut l d ∧ (∀ k, d k = true → τ k (us k) w) ∧ (∀ k, d k = false → us k = us0 k)) us0 hm hb hap h0 ⟨hst, (fun _ _ _ h => (by cases h)), (fun _ h => (by cases h)), fun _ _ => rfl⟩ ?_ (fun d us w hI hd => hend d us w hI.1 (fun i hi => ⟨hd i hi, hI.2.2.1 i (hd i hi)⟩))
  have shut : ∀ (i : Nat) (o : Oper) (d : Nat → Bool), l[i]? = some o → Shut l d → (∀ k, (∃ e, e ∈ o.after ∧ Region.binds .any e = true ∧ e.on = k) → d k = true) → Shut l (setD d i) := by
    intro i o d hl hs hp k o' ho' hk e he hbd
    unfold setD at hk ⊢
    by_cases hon : e.on = i
    · rw [if_pos hon]
    · rw [if_neg hon]
      by_cases hki : k = i
      · subst hki
        rw [hl] at ho'
        injection ho' with ho'
        subst ho'
        exact hp _ ⟨e, he, hbd, rfl⟩
      · rw [if_neg hki] at hk
        exact hs k o' ho' hk e he hbd
  have conv : ∀ (ll : List Oper) (k : Nat), (∀ j o, ll[j]? = some o → l[k + j]? = some o) → AllOps (OpT P a0 l J τ us0) k ll → AllOps (OpInv P a0 l (fun d us w => J d w ∧ Shut l d ∧ (∀ k, d k = true → τ k (us k) w) ∧ (∀ k, d k = false → us k = us0 k))) k ll := by
    intro ll
    induction ll with
    | nil => exact fun _ _ _ => trivial
    | cons o ll ih =>
      rintro k hat ⟨h1, h2⟩
      refine ⟨?_, ih (k + 1) (fun j o' h => by have := hat (j + 1) o' (by simpa using h); rwa [show k + (j + 1) = k + 1 + j from by omega] at this) h2⟩
      rintro d us w ⟨hJ, hs, ht, hu⟩ hd hp us' rfl
      have hlk : l[k]? = some o := by simpa using hat 0 o (by simp)
      have hs' := shut k o d hlk hs hp
      rcases h1 d us' w hd hJ (fun j hj => ⟨hp j hj, ht j (hp j hj)⟩) (fun j hj => have := laterB_not hs hd _ _ hj; ⟨this, hu j this⟩) (hu k hd) with ⟨hw, h⟩ | ⟨hw, hJ', ht'⟩
      · refine .inl ⟨hw, fun K Q hK => h K Q fun v w' hj hv hmono => hK v w' ⟨hj, hs', fun j hj => ?_, fun j hj => ?_⟩⟩
        · unfold setD at hj
          unfold updU
          by_cases hjk : j = k
          · subst hjk; rw [if_pos rfl]; exact hv
          · rw [if_neg hjk] at hj ⊢; exact hmono _ _ hjk (ht j hj)
        · unfold setD at hj
          unfold updU
          by_cases hjk : j = k
          · rw [if_pos hjk] at hj; cases hj
          · rw [if_neg hjk] at hj ⊢; exact hu j hj
      · refine .inr ⟨hw, hJ', hs', fun j hj => ?_, fun j hj => ?_⟩
        · unfold setD at hj
          unfold updU
          by_cases hjk : j = k
          · subst hjk; rw [if_pos rfl]; exact ht'
          · rw [if_neg hjk] at hj ⊢; exact ht j hj
        · unfold setD at hj
          unfold updU
          by_cases hjk : j = k
          · rw [if_pos hjk] at hj; cases hj
          · rw [if_neg hjk] at hj ⊢; exact hu j hj
  exact conv l 0 (fun j o h => by simpa using h) hop
end
/-- Slots' types that are plain values, but for some. -/
def tauL (vs : List (Option Value)) (Sp : Nat → Value → World → Prop) (k : Nat) (v : Value) (w : World) : Prop := match (vs[k]?).join with
  | some x => v = x
  | none => Sp k v w
def tauN : Nat → Value → World → Prop := fun _ _ _ => True
theorem tauL_mono {vs : List (Option Value)} {Sp : Nat → Value → World → Prop} {w w' : World} (hs : ∀ k u, Sp k u w → Sp k u w') (k : Nat) (u : Value) (h : tauL vs Sp k u w) : tauL vs Sp k u w' := by
  unfold tauL at *
  split at h <;> first | exact h | exact hs _ _ h
theorem tauL_any {vs : List (Option Value)} {w w' : World} (k : Nat) (u : Value) (h : tauL vs tauN k u w) : tauL vs tauN k u w' := tauL_mono (fun _ _ _ => trivial) k u h
end Go.Proofs.Ytkhicfoikkllmaa
