/- A region that draws its order: what only reads or makes memory is walked once, in the order of the text; what writes is walked behind it. What a call leaves as it was: all blocks but some. Contracts of package num: Text. Contracts of package num: ReadBig. Contracts of package num: ReadVar. Contracts of package num: Big. strings.Builder in this program: copyCheck and WriteString. (The lines follow the library's own proof of the same contracts, turned to this program's numbers.) Contracts of package okey: Key of numbers. Contracts: cell.Crc. Contracts: okey: Str, Num, Key of one text, readText. Contracts: okey: readText. A text's bytes appended to a row of bytes: where the new row lies. block.Builder in memory; shared. -/
import Derived.Test.YtfnlponoakhegaaDoorM00
import Derived.Lib.ConvBytes
import Derived.Laws.Bits64
import Derived.Laws.BitsAll
import Derived.Laws.BitsAllLaws
import Derived.Test.YtfnlponoakhegaaDoorShelf
import Derived.Lib.AppendStr
import Derived.Lib.Hide
namespace Go.Proofs.YtfnlponoakhegaaDoor
open Go.RowKit
set_option linter.unusedVariables false
set_option linter.unusedSimpArgs false

section
variable {P : Program} {Q : Exit → Act → World → Prop}

/-- Marks: some false: early; some true: early, and looks at no world; none: one of the tail. -/
def earlyL : List Oper → List (Option Bool) → List (Oper × Bool)
  | o :: l, some false :: m => (o, false) :: earlyL l m
  | o :: l, some true :: m => (o, true) :: earlyL l m
  | _ :: l, none :: m => earlyL l m
  | [], _ => []
  | _ :: _, [] => []
def tailL : List Oper → List (Option Bool) → List Oper
  | o :: l, none :: m => o :: tailL l m
  | _ :: l, some _ :: m => tailL l m
  | [], _ => []
  | _ :: _, [] => []
def tailIx : Nat → List (Option Bool) → List Nat
  | _, [] => []
  | k, none :: m => k :: tailIx (k + 1) m
  | k, some _ :: m => tailIx (k + 1) m
def wpMix (P : Program) (ops : Array Oper) (C : World → Prop) (Qe : Act → Prop) : List (Oper × Bool) → Act → Prop
  | [], a => Qe a
  | (o, false) :: rest, a => wpQuiet P ops C (wpMix P ops C Qe rest) [o] a
  | (o, true) :: rest, a => wpQuiet P ops (fun _ => True) (wpMix P ops C Qe rest) [o] a
def wpTail (P : Program) (ops : Array Oper) (C : World → Prop) (Qe : Act → World → Prop) : Nat → List Oper → Act → World → Prop
  | _, [], a, w => Qe a w
  | b, o :: rest, a, w => ∀ Q' : Exit → Act → World → Prop, (∀ a' w', a'.defers = a.defers → (0 < b → C w') → wpTail P ops C Qe (b - 1) rest a' w' → Q' .normal a' w') → wpList P ops Q' [o] a w
theorem wpMix_nil {ops : Array Oper} {C : World → Prop} {Qe : Act → Prop} {a : Act} (h : Qe a) : wpMix P ops C Qe [] a := h
theorem wpMix_e {ops : Array Oper} {C : World → Prop} {Qe : Act → Prop} {a : Act} {o : Oper} {rest : List (Oper × Bool)} (h : wpQuiet P ops C (wpMix P ops C Qe rest) [o] a) : wpMix P ops C Qe ((o, false) :: rest) a := h
theorem wpMix_p {ops : Array Oper} {C : World → Prop} {Qe : Act → Prop} {a : Act} {o : Oper} {rest : List (Oper × Bool)} (h : wpQuiet P ops (fun _ => True) (wpMix P ops C Qe rest) [o] a) : wpMix P ops C Qe ((o, true) :: rest) a := h
theorem wpTail_nil {ops : Array Oper} {C : World → Prop} {Qe : Act → World → Prop} {b : Nat} {a : Act} {w : World} (h : Qe a w) : wpTail P ops C Qe b [] a w := by
  cases b <;> exact h
theorem wpTail_step {ops : Array Oper} {C : World → Prop} {Qe : Act → World → Prop} {b : Nat} {a : Act} {w : World} {o : Oper} {rest : List Oper}
    (h : ∀ Q' : Exit → Act → World → Prop, (∀ a' w', a'.defers = a.defers → (0 < b → C w') → wpTail P ops C Qe (b - 1) rest a' w' → Q' .normal a' w') → wpList P ops Q' [o] a w) : wpTail P ops C Qe b (o :: rest) a w := by
  cases b <;> exact h

def isT (mask : List (Option Bool)) (i : Nat) : Bool := match mask[i]? with
  | some none => true
  | _ => false
def isP (mask : List (Option Bool)) (i : Nat) : Bool := match mask[i]? with
  | some (some true) => true
  | _ => false
def isCall (o : Oper) : Bool := match o.op with
  | .move _ | .assign _ | .nilCheck _ | .load .. | .binOp .. | .unOp .. | .convert .. | .makeInterface .. | .slice .. | .fieldAddr .. | .field .. | .indexAddr .. | .index .. | .extract .. | .lookup .. | .pick .. | .buildSlice .. | .build .. => false
  | _ => true
def allIx (n : Nat) (f : Nat → Bool) : Bool := (List.range n).all f
theorem allIx_at {n : Nat} {f : Nat → Bool} (h : allIx n f = true) (i : Nat) (hi : i < n) : f i = true := List.all_eq_true.1 h i (List.mem_range.2 hi)
def onB (o : Oper) (j : Nat) : Bool := o.after.toList.any fun e => Region.binds .any e && e.on == j
def looksB (l : List Oper) : Bool := allIx l.length fun i => allIx l.length fun j => match l[i]?, l[j]? with
  | some o, some q => match q.dst with
    | some t => !((o.looksAt l.toArray).contains t) || onB o j || laterB l i l.length j
    | none => true
  | _, _ => true
def earlyB (l : List Oper) (mask : List (Option Bool)) : Bool := allIx l.length fun i => allIx l.length fun j => !(isT mask i) || isT mask j || !(laterB l i l.length j)
def pairB (l : List Oper) : List Nat → Bool
  | [] => true
  | i :: r => (r.all fun j => laterB l i l.length j) && pairB l r
def impB (l : List Oper) (mask : List (Option Bool)) (b : Nat) : Bool := allIx l.length fun i => isT mask i || isP mask i || match (tailIx 0 mask)[b]? with
  | some t => laterB l i l.length t
  | none => true
def callB (l : List Oper) (mask : List (Option Bool)) : Bool := allIx l.length fun i => isT mask i || match l[i]? with
  | some o => !(isCall o) || (!(isP mask i) && match (tailIx 0 mask)[0]? with
    | some t => laterB l i l.length t
    | none => true)
  | none => true
def lineB (l : List Oper) (mask : List (Option Bool)) (b : Nat) : Bool :=
  decide (l.length = mask.length) && backB l && apartB l && Region.noSelect l.toArray && looksB l && earlyB l mask && pairB l (tailIx 0 mask) && impB l mask b && callB l mask

theorem tailIx_mem : ∀ (m : List (Option Bool)) (k i : Nat), i ∈ tailIx k m ↔ k ≤ i ∧ m[i - k]? = some none
  | [], k, i => by simp [tailIx]
  | none :: m, k, i => by
    unfold tailIx
    rw [List.mem_cons, tailIx_mem m (k + 1) i]
    constructor
    · rintro (rfl | ⟨h1, h2⟩)
      · simp
      · refine ⟨by omega, ?_⟩
        rw [show i - k = (i - (k + 1)) + 1 from by omega]
        simpa using h2
    · rintro ⟨h1, h2⟩
      by_cases e : i = k
      · exact .inl e
      · right
        refine ⟨by omega, ?_⟩
        rw [show i - k = (i - (k + 1)) + 1 from by omega] at h2
        simpa using h2
  | some p :: m, k, i => by
    unfold tailIx
    rw [tailIx_mem m (k + 1) i]
    constructor
    · rintro ⟨h1, h2⟩
      refine ⟨by omega, ?_⟩
      rw [show i - k = (i - (k + 1)) + 1 from by omega]
      simpa using h2
    · rintro ⟨h1, h2⟩
      have : i ≠ k := by
        rintro rfl
        simp at h2
      refine ⟨by omega, ?_⟩
      rw [show i - k = (i - (k + 1)) + 1 from by omega] at h2
      simpa using h2
theorem isT_iff {mask : List (Option Bool)} {i : Nat} : isT mask i = true ↔ i ∈ tailIx 0 mask := by
  rw [tailIx_mem]
  unfold isT
  constructor
  · intro h
    refine ⟨Nat.zero_le _, ?_⟩
    split at h
    · rename_i h2; simpa using h2
    · cases h
  · rintro ⟨_, h⟩
    rw [Nat.sub_zero] at h
    rw [h]
theorem tailL_ix (l : List Oper) : ∀ (ll : List Oper) (mm : List (Option Bool)) (k : Nat), ll.length = mm.length → (∀ j, ll[j]? = l[k + j]?) → tailL ll mm = (tailIx k mm).filterMap (fun i => l[i]?)
  | [], [], _, _, _ => rfl
  | [], _ :: _, _, h, _ => by simp at h
  | _ :: _, [], _, h, _ => by simp at h
  | o :: ll, none :: mm, k, h, hl => by
    have h0 : l[k]? = some o := by simpa using (hl 0).symm
    unfold tailL tailIx
    rw [List.filterMap_cons, h0, tailL_ix l ll mm (k + 1) (by simpa using h) (fun j => by have := hl (j + 1); rw [show k + 1 + j = k + (j + 1) from by omega]; simpa using this)]
  | o :: ll, some p :: mm, k, h, hl => by
    unfold tailL tailIx
    exact tailL_ix l ll mm (k + 1) (by simpa using h) (fun j => by have := hl (j + 1); rw [show k + 1 + j = k + (j + 1) from by omega]; simpa using this)

theorem putAll_congr_lt : ∀ (l : List Oper) (k : Nat) (us us' : Nat → Value) (a : Act), (∀ j, k ≤ j → j < k + l.length → us j = us' j) → putAll k l us a = putAll k l us' a
  | [], _, _, _, _, _ => rfl
  | o :: l, k, us, us', a, h => by
    unfold putAll
    rw [h k (Nat.le_refl _) (by simp)]
    exact putAll_congr_lt l (k + 1) us us' _ (fun j hj hj' => h j (by omega) (by simp at hj' ⊢; omega))
theorem putAll_tmp (t : Tmp) : ∀ (l : List Oper) (k : Nat) (us us' : Nat → Value) (a a' : Act), (∀ j o, l[j]? = some o → o.dst = some t → us (k + j) = us' (k + j)) → a.tmps[t]? = a'.tmps[t]? → (putAll k l us a).tmps[t]? = (putAll k l us' a').tmps[t]?
  | [], _, _, _, _, _, _, h => h
  | o :: l, k, us, us', a, a', hj, h => by
    unfold putAll
    refine putAll_tmp t l (k + 1) us us' _ _ (fun j q hq hd => ?_) ?_
    · have := hj (j + 1) q (by simpa using hq) hd
      rwa [show k + 1 + j = k + (j + 1) from by omega]
    · cases hd : o.dst with
      | none => exact h
      | some x =>
        simp only [Act.put]
        by_cases hx : x = t
        · subst hx
          have := hj 0 o (by simp) hd
          rw [Nat.add_zero] at this
          rw [this]
          rcases Nat.lt_or_ge x a.tmps.size with h1 | h1
          · rcases Nat.lt_or_ge x a'.tmps.size with h2 | h2
            · rw [Array.getElem?_setIfInBounds_self_of_lt h1, Array.getElem?_setIfInBounds_self_of_lt h2]
            · rw [Array.getElem?_eq_none h2, Array.getElem?_eq_getElem h1] at h; cases h
          · rcases Nat.lt_or_ge x a'.tmps.size with h2 | h2
            · rw [Array.getElem?_eq_none h1, Array.getElem?_eq_getElem h2] at h; cases h
            · rw [Array.getElem?_eq_none (by simpa using h1), Array.getElem?_eq_none (by simpa using h2)]
        · rw [Array.getElem?_setIfInBounds_ne hx, Array.getElem?_setIfInBounds_ne hx]
          exact h
def selfU (l : List Oper) (a : Act) : Nat → Value := fun k => match (l[k]?).bind (·.dst) with
  | some t => a.tmps.getD t undef
  | none => undef
theorem set_self (a : Array Value) (t : Nat) : a.setIfInBounds t (a.getD t undef) = a := by
  apply Array.ext
  · simp
  · intro i h1 h2
    by_cases hi : t = i
    · subst hi
      simp [Array.getD, h2]
    · rw [Array.getElem_setIfInBounds_ne _ hi]
theorem putAll_self : ∀ (l : List Oper) (k : Nat) (us : Nat → Value) (a : Act), (∀ j o t, l[j]? = some o → o.dst = some t → us (k + j) = a.tmps.getD t undef) → putAll k l us a = a
  | [], _, _, _, _ => rfl
  | o :: l, k, us, a, h => by
    unfold putAll
    have h0 : a.put o.dst (us k) = a := by
      cases hd : o.dst with
      | none => rfl
      | some t =>
        have := h 0 o t (by simp) hd
        rw [Nat.add_zero] at this
        rw [this]
        simp only [Act.put, set_self]
    rw [h0]
    exact putAll_self l (k + 1) us a (fun j q t hq hd => by
      have := h (j + 1) q t (by simpa using hq) hd
      rwa [show k + 1 + j = k + (j + 1) from by omega])
theorem putAll_defers : ∀ (l : List Oper) (k : Nat) (us : Nat → Value) (a : Act), (putAll k l us a).defers = a.defers
  | [], _, _, _ => rfl
  | o :: l, k, us, a => by
    unfold putAll
    rw [putAll_defers l (k + 1) us]
    cases o.dst <;> rfl
/-- An operation sees of the frame what it looks at. -/
theorem exec_agree {l : List Oper} {a0 : Act} {o : Oper} {us us' : Nat → Value} (hs : ∀ cs b, o.op ≠ .select cs b)
    (h : ∀ j q t, l[j]? = some q → q.dst = some t → t ∈ o.looksAt l.toArray → us j = us' j) :
    execOp (putAll 0 l us a0).eval o = execOp (putAll 0 l us' a0).eval o ∧ Region.wanted o (yielded l.toArray (putAll 0 l us a0).tmps) = Region.wanted o (yielded l.toArray (putAll 0 l us' a0).tmps) := by
  have tm : ∀ t, t ∈ o.looksAt l.toArray → (putAll 0 l us a0).tmps[t]? = (putAll 0 l us' a0).tmps[t]? := fun t ht =>
    putAll_tmp t l 0 us us' a0 a0 (fun j q hq hd => by rw [Nat.zero_add]; exact h j q t hq hd ht) rfl
  refine ⟨execOp_congr o hs fun x hx => ?_, ?_⟩
  · cases x with
    | tmp t =>
      have := tm t (List.mem_append_left _ (List.mem_filterMap.2 ⟨.tmp t, by simpa using hx, rfl⟩))
      simp only [Act.eval, Array.getD_eq_getD_getElem?, this]
    | _ => rfl
  · unfold Region.wanted
    cases hg : o.guard with
    | none => rfl
    | some gw =>
      obtain ⟨g, want⟩ := gw
      have hy : yielded l.toArray (putAll 0 l us a0).tmps g = yielded l.toArray (putAll 0 l us' a0).tmps g := by
        unfold yielded
        cases ht : (l.toArray[g]?).bind (·.dst) with
        | none => rfl
        | some t =>
          have := tm t (by
            unfold Oper.looksAt
            rw [hg]
            exact List.mem_append_right _ (by simp only [ht]; simp))
          simp only [Option.bind_some, this]
      simp only [hy]
theorem AllOps.intro {H : Nat → Oper → Prop} : ∀ (l : List Oper) (k : Nat), (∀ j o, l[j]? = some o → H (k + j) o) → AllOps H k l
  | [], _, _ => trivial
  | o :: l, k, h => ⟨by simpa using h 0 o (by simp), AllOps.intro l (k + 1) (fun j q hq => by
      have := h (j + 1) q (by simpa using hq)
      rwa [show k + 1 + j = k + (j + 1) from by omega])⟩
theorem quiet_one {ops : Array Oper} {C : World → Prop} {K : Act → Prop} {o : Oper} {a : Act} (h : wpQuiet P ops C K [o] a) : ∃ v, YieldsIn P ops C o v a ∧ K (a.put o.dst v) := by
  unfold wpQuiet at h
  by_cases hw : Region.wanted o (yielded ops a.tmps) = true
  · rw [if_pos hw] at h
    obtain ⟨v, h1, h2⟩ := h
    exact ⟨v, .inl ⟨hw, h1⟩, h2⟩
  · rw [if_neg hw] at h
    exact ⟨undef, .inr ⟨by simpa using hw, rfl⟩, h⟩
def clsOf (C : World → Prop) (p : Bool) : World → Prop := if p then fun _ => True else C
theorem walk_spec {C : World → Prop} {Qe : Act → Prop} {l : List Oper} {a0 : Act} (hap : apartB l = true) : ∀ (ll : List Oper) (mm : List (Option Bool)) (k : Nat) (us : Nat → Value), ll.length = mm.length → (∀ j o, ll[j]? = some o → l[k + j]? = some o) →
    wpMix P l.toArray C Qe (earlyL ll mm) (putAll 0 l us a0) →
    ∃ val : Nat → Value, (∀ j, j < k → val j = us j) ∧ (∀ j, mm[j]? = some none → val (k + j) = us (k + j)) ∧
      (∀ j o p, ll[j]? = some o → mm[j]? = some (some p) → YieldsIn P l.toArray (clsOf C p) o (val (k + j)) (putAll 0 l (fun i => if i < k + j then val i else us i) a0)) ∧ Qe (putAll 0 l val a0)
  | [], [], k, us, _, _, h => ⟨us, fun _ _ => rfl, fun _ _ => rfl, fun j o p hj => by simp at hj, h⟩
  | [], _ :: _, _, _, hl, _, _ => by simp at hl
  | _ :: _, [], _, _, hl, _, _ => by simp at hl
  | o :: ll, none :: mm, k, us, hl, hat, h => by
    obtain ⟨val, h1, h2, h3, h4⟩ := walk_spec hap ll mm (k + 1) us (by simpa using hl) (fun j q hq => by
      have := hat (j + 1) q (by simpa using hq)
      rwa [show k + 1 + j = k + (j + 1) from by omega]) (by simpa [earlyL] using h)
    refine ⟨val, fun j hj => h1 j (by omega), fun j hj => ?_, fun j q p hq hp => ?_, h4⟩
    · cases j with
      | zero => exact h1 k (by omega)
      | succ j => have := h2 j (by simpa using hj); rwa [show k + (j + 1) = k + 1 + j from by omega]
    · cases j with
      | zero => simp at hp
      | succ j =>
        have := h3 j q p (by simpa using hq) (by simpa using hp)
        rwa [show k + (j + 1) = k + 1 + j from by omega]
  | o :: ll, some p :: mm, k, us, hl, hat, h => by
    have h0 : l[k]? = some o := by simpa using hat 0 o (by simp)
    have h' : wpQuiet P l.toArray (clsOf C p) (wpMix P l.toArray C Qe (earlyL ll mm)) [o] (putAll 0 l us a0) := by
      cases p <;> simpa [earlyL, wpMix, clsOf] using h
    obtain ⟨v, hy, hk⟩ := quiet_one h'
    have hput := putAll_put l 0 us a0 k o v hap h0
    rw [Nat.zero_add] at hput
    rw [hput] at hk
    obtain ⟨val, h1, h2, h3, h4⟩ := walk_spec hap ll mm (k + 1) (updU us k v) (by simpa using hl) (fun j q hq => by
      have := hat (j + 1) q (by simpa using hq)
      rwa [show k + 1 + j = k + (j + 1) from by omega]) hk
    have hk0 : val k = v := by rw [h1 k (by omega)]; simp [updU]
    have hne : ∀ j, j ≠ k → updU us k v j = us j := fun j hj => by unfold updU; rw [if_neg hj]
    refine ⟨val, fun j hj => by rw [h1 j (by omega), hne j (by omega)], fun j hj => ?_, fun j q p' hq hp => ?_, h4⟩
    · cases j with
      | zero => simp at hj
      | succ j =>
        have := h2 j (by simpa using hj)
        rw [show k + (j + 1) = k + 1 + j from by omega, this, hne _ (by omega)]
    · cases j with
      | zero =>
        simp at hq hp
        subst hq hp
        rw [Nat.add_zero, hk0]
        have e : putAll 0 l (fun i => if i < k then val i else us i) a0 = putAll 0 l us a0 := by
          refine putAll_congr l 0 _ _ _ (fun j _ => ?_)
          by_cases hj : j < k
          · rw [if_pos hj, h1 j (by omega), hne j (by omega)]
          · rw [if_neg hj]
        rw [e]
        exact hy
      | succ j =>
        have := h3 j q p' (by simpa using hq) (by simpa using hp)
        rw [show k + (j + 1) = k + 1 + j from by omega]
        have e : putAll 0 l (fun i => if i < k + 1 + j then val i else us i) a0 = putAll 0 l (fun i => if i < k + 1 + j then val i else updU us k v i) a0 := by
          refine putAll_congr l 0 _ _ _ (fun i _ => ?_)
          by_cases hj : i < k + 1 + j
          · rw [if_pos hj, if_pos hj]
          · rw [if_neg hj, if_neg hj, hne i (by omega)]
        rw [e]
        exact this
theorem laterB_gt {l : List Oper} (hb : backB l = true) {i : Nat} : ∀ f k, laterB l i f k = true → i < k
  | 0, _, h => by simp [laterB] at h
  | f + 1, k, h => by
    unfold laterB at h
    cases ho : l[k]? with
    | none => rw [ho] at h; simp at h
    | some o =>
      rw [ho] at h
      simp only [List.any_eq_true, Bool.and_eq_true, Bool.or_eq_true, beq_iff_eq] at h
      obtain ⟨e, he, hbd, h1⟩ := h
      unfold backB at hb
      rw [List.all_eq_true] at hb
      have hlt : k < l.length := (List.getElem?_eq_some_iff.1 ho).1
      have h2 := hb (o, k) (by rw [List.mem_zipIdx_iff_getElem?]; simpa using ho)
      simp only [Array.all_eq_true_iff_forall_mem] at h2
      have h3 := h2 e (by simpa using he)
      simp [hbd] at h3
      rcases h1 with h1 | h1
      · omega
      · have := laterB_gt (l := l) (by unfold backB; rw [List.all_eq_true]; exact hb) f e.on h1
        omega
theorem shut_set {l : List Oper} {d : Nat → Bool} {i : Nat} {o : Oper} (hl : l[i]? = some o) (hs : Shut l d) (hp : ∀ k, (∃ e, e ∈ o.after ∧ Region.binds .any e = true ∧ e.on = k) → d k = true) : Shut l (setD d i) := by
  intro k o' ho' hk e he hbd
  unfold setD at hk ⊢
  by_cases hon : e.on = i
  · rw [if_pos hon]
  · rw [if_neg hon]
    by_cases hki : k = i
    · subst hki
      rw [hl] at ho'
      injection ho' with ho'
      subst ho'
      exact hp _ ⟨e, he, hbd, rfl⟩
    · rw [if_neg hki] at hk
      exact hs k o' ho' hk e he hbd
theorem pairB_spec {l : List Oper} : ∀ {dn : List Nat} {i j : Nat} {r : List Nat}, pairB l (dn ++ i :: r) = true → j ∈ r → laterB l i l.length j = true
  | [], i, j, r, h, hj => by
    simp only [List.nil_append, pairB, Bool.and_eq_true, List.all_eq_true] at h
    exact h.1 j hj
  | _ :: dn, i, j, r, h, hj => by
    simp only [List.cons_append, pairB, Bool.and_eq_true] at h
    exact pairB_spec h.2 hj
def fullU (mask : List (Option Bool)) (val us : Nat → Value) : Nat → Value := fun k => if isT mask k = true then us k else val k
theorem val_enter {s : Sem Value} {w w' : World} {f : FuncId} {args : Array Value} (h : ((do pure (.value (← s))) : Sem Next).run P w = .ok (.enter f args) w') : False := by
  rw [Sem.run_bind] at h
  cases hs : s.run P w with
  | ok a w1 => rw [hs] at h; simp at h
  | halt x w1 => rw [hs] at h; simp at h
theorem bind_enter {α : Type} {s : Sem α} {g : α → Sem Next} {w w' : World} {f : FuncId} {args : Array Value} (hg : ∀ a w1, (g a).run P w1 = .ok (.enter f args) w' → False) (h : (s >>= g).run P w = .ok (.enter f args) w') : False := by
  rw [Sem.run_bind] at h
  cases hs : s.run P w with
  | ok a w1 => rw [hs] at h; exact hg a w1 h
  | halt x w1 => rw [hs] at h; simp at h
theorem not_enter {ρ : Operand → Value} {o : Oper} {w w' : World} {f : FuncId} {args : Array Value} (hc : isCall o = false) (h : (execOp ρ o).run P w = .ok (.enter f args) w') : False := by
  obtain ⟨dst, op, type, pos, after, guard⟩ := o
  cases op <;> first | (simp [isCall] at hc; done) | skip
  all_goals first
    | exact val_enter h
    | (simp [execOp] at h; done)
    | (unfold execOp at h
       dsimp only at h
       repeat' split at h
       all_goals first | (simp at h; done) | exact val_enter h | (simp [runtimePanic] at h; done) | (simp only [Sem.run_bind] at h; simp at h; split at h <;> simp at h; done) | (refine bind_enter (fun _ _ h1 => bind_enter (fun a w1 h2 => ?_) h1) h; split at h2 <;> simp at h2) | (refine bind_enter (fun _ _ h1 => ?_) h; simp at h1))
theorem wp_region_line {id : Nat} {a0 : Act} {w0 : World} {l : List Oper} (C : World → Prop) (mask : List (Option Bool)) (b : Nat)
    (hm : P.follows .mixedOrders = true) (hB : lineB l mask b = true) (hC : C w0.drew)
    (h : wpMix P l.toArray C (fun a => ∀ w, C w → wpTail P l.toArray C (Q .normal) b (tailL l mask) a w) (earlyL l mask) a0) : (Code.region id l.toArray true).wp P Q a0 w0 := by
  unfold lineB at hB
  simp only [Bool.and_eq_true, decide_eq_true_eq] at hB
  obtain ⟨⟨⟨⟨⟨⟨⟨⟨hlen, hback⟩, hap⟩, hsel⟩, hlooks⟩, hearly⟩, hpair⟩, himp⟩, hcall⟩ := hB
  have hself : putAll 0 l (selfU l a0) a0 = a0 := putAll_self l 0 _ _ (fun j o t hj hd => by simp [selfU, hj, hd])
  obtain ⟨val, _, hvT, hvY, hend⟩ := walk_spec hap l mask 0 (selfU l a0) hlen (fun j o hj => by simpa using hj) (by rw [hself]; exact h)
  have htail := tailL_ix l l mask 0 hlen (fun j => by simp)
  rw [htail] at hend
  clear htail h
  have hvT' : ∀ i, isT mask i = true → val i = selfU l a0 i := fun i hi => by
    have := (tailIx_mem mask 0 i).1 (isT_iff.1 hi)
    have := hvT i (by simpa using this.2)
    simpa using this
  have selO : ∀ (i : Nat) (o : Oper), l[i]? = some o → ∀ cs b, o.op ≠ .select cs b := fun i o hi cs b => Region.noSelect_spec hsel i o cs b (by simpa using hi)
  have lt_of : ∀ {i : Nat} {o : Oper}, l[i]? = some o → i < l.length := fun hi => (List.getElem?_eq_some_iff.1 hi).1
  have direct : ∀ {i j : Nat} {o : Oper}, l[i]? = some o → onB o j = true → laterB l j l.length i = true := by
    intro i j o hi hon
    have := lt_of hi
    obtain ⟨n, hn⟩ : ∃ n, l.length = n + 1 := ⟨l.length - 1, by omega⟩
    rw [hn]
    unfold laterB
    rw [hi]
    unfold onB at hon
    simp only [List.any_eq_true, Bool.and_eq_true, beq_iff_eq, Bool.or_eq_true] at hon ⊢
    obtain ⟨e, he, hb, h2⟩ := hon
    exact ⟨e, he, hb, .inl h2⟩
  have notlater : ∀ {i j : Nat}, i < l.length → j < l.length → isT mask i = true → isT mask j = false → laterB l i l.length j = false := by
    intro i j hi hj h1 h2
    have := allIx_at (allIx_at hearly i hi) j hj
    simpa [h1, h2] using this
  have looks : ∀ {i j : Nat} {o q : Oper} {t : Tmp}, l[i]? = some o → l[j]? = some q → q.dst = some t → t ∈ o.looksAt l.toArray → onB o j = true ∨ laterB l i l.length j = true := by
    intro i j o q t hi hj hd ht
    have := allIx_at (allIx_at hlooks i (lt_of hi)) j (lt_of hj)
    simp only [hi, hj, hd] at this
    simpa [ht] using this
  refine wp_region_inv (fun d us w => Shut l d ∧ (∀ k, isT mask k = false → d k = true → us k = val k) ∧ (∀ k, d k = false → us k = selfU l a0 k) ∧
      ∃ dn rest, tailIx 0 mask = dn ++ rest ∧ (∀ i ∈ dn, d i = true) ∧ (∀ i ∈ rest, d i = false) ∧ (dn.length ≤ b → C w) ∧
        (dn = [] ∨ wpTail P l.toArray C (Q .normal) (b - dn.length) (rest.filterMap (fun i => l[i]?)) (putAll 0 l (fullU mask val us) a0) w))
    (selfU l a0) hm hback hap hself ⟨(fun _ _ _ h => (by cases h)), (fun _ _ h => (by cases h)), fun _ _ => rfl, [], _, rfl, by simp, fun _ _ => rfl, fun _ => hC, .inl rfl⟩ ?_ ?_
  · refine AllOps.intro l 0 (fun i o hi => ?_)
    rw [Nat.zero_add]
    rintro d us w ⟨hs, hv, hu, dn, rest, hsp, hdn, hrest, hCw, htl⟩ hd hp us' rfl
    have hi' := lt_of hi
    have hs' : Shut l (setD d i) := shut_set hi hs hp
    have onp : ∀ {j : Nat}, onB o j = true → d j = true := by
      intro j hon
      unfold onB at hon
      simp only [List.any_eq_true, Bool.and_eq_true, beq_iff_eq] at hon
      obtain ⟨e, he, hb, h2⟩ := hon
      exact hp j ⟨e, by simpa using he, hb, h2⟩
    have later0 : ∀ {j : Nat}, laterB l i l.length j = true → d j = false := fun hj => laterB_not hs hd _ _ hj
    have ahead1 : ∀ {j : Nat}, laterB l j l.length i = true → d j = true := by
      intro j hj
      rcases Bool.eq_false_or_eq_true (d j) with h1 | h1
      · exact h1
      · by_cases e : j = i
        · subst e
          have := laterB_gt hback _ _ hj
          omega
        · have h2 : setD d i j = false := by unfold setD; rw [if_neg e]; exact h1
          have h3 := laterB_not hs' h2 _ _ hj
          unfold setD at h3
          rw [if_pos rfl] at h3
          cases h3
    rcases Bool.eq_false_or_eq_true (isT mask i) with hT | hT
    · -- one of the tail
      have him : i ∈ tailIx 0 mask := isT_iff.1 hT
      rw [hsp] at him
      have hir : i ∈ rest := by
        rcases List.mem_append.1 him with h1 | h1
        · rw [hdn i h1] at hd; cases hd
        · exact h1
      obtain ⟨rest', rfl⟩ : ∃ rest', rest = i :: rest' := by
        cases rest with
        | nil => cases hir
        | cons r rest' =>
          by_cases e : r = i
          · exact ⟨rest', by rw [e]⟩
          · exfalso
            have hir' : i ∈ rest' := by
              rcases List.mem_cons.1 hir with h1 | h1
              · exact absurd h1.symm e
              · exact h1
            have := ahead1 (pairB_spec (dn := dn) (hsp ▸ hpair) hir')
            rw [hrest r (by simp)] at this
            cases this
      have hag := exec_agree (l := l) (a0 := a0) (us := us') (us' := fullU mask val us') (selO i o hi) (fun j q t hj hdst ht => by
        unfold fullU
        rcases Bool.eq_false_or_eq_true (isT mask j) with hTj | hTj
        · rw [if_pos hTj]
        · rw [if_neg (by rw [hTj]; decide)]
          rcases looks hi hj hdst ht with h1 | h1
          · exact hv j hTj (onp h1)
          · rw [notlater hi' (lt_of hj) hT hTj] at h1; cases h1)
      have htw : wpTail P l.toArray C (Q .normal) (b - dn.length) (o :: rest'.filterMap (fun i => l[i]?)) (putAll 0 l (fullU mask val us') a0) w := by
        rcases htl with rfl | h1
        · have hfull : putAll 0 l (fullU mask val us') a0 = putAll 0 l val a0 := putAll_congr l 0 _ _ _ (fun j _ => by
            unfold fullU
            rcases Bool.eq_false_or_eq_true (isT mask j) with hTj | hTj
            · rw [if_pos hTj, hvT' j hTj]
              have : j ∈ i :: rest' := by have := isT_iff.1 hTj; rw [hsp] at this; simpa using this
              exact hu j (hrest j this)
            · rw [if_neg (by rw [hTj]; decide)])
          rw [hfull]
          have := hend w (hCw (Nat.zero_le _))
          rw [hsp, List.nil_append, List.filterMap_cons, hi] at this
          simpa using this
        · rw [List.filterMap_cons, hi] at h1
          exact h1
      have hfr : ∀ v, (putAll 0 l (fullU mask val us') a0).put o.dst v = putAll 0 l (fullU mask val (updU us' i v)) a0 := fun v => by
        have := putAll_put l 0 (fullU mask val us') a0 i o v hap hi
        rw [Nat.zero_add] at this
        rw [this]
        refine putAll_congr l 0 _ _ _ (fun j _ => ?_)
        unfold updU fullU
        by_cases e : j = i
        · subst e
          simp only [if_true, hT]
        · simp only [if_neg e]
      have next : ∀ v w', (0 < b - dn.length → C w') → wpTail P l.toArray C (Q .normal) (b - dn.length - 1) (rest'.filterMap (fun i => l[i]?)) ((putAll 0 l (fullU mask val us') a0).put o.dst v) w' →
          Shut l (setD d i) ∧ (∀ k, isT mask k = false → setD d i k = true → updU us' i v k = val k) ∧ (∀ k, setD d i k = false → updU us' i v k = selfU l a0 k) ∧
          ∃ dn rest, tailIx 0 mask = dn ++ rest ∧ (∀ i_1 ∈ dn, setD d i i_1 = true) ∧ (∀ i_1 ∈ rest, setD d i i_1 = false) ∧ (dn.length ≤ b → C w') ∧
            (dn = [] ∨ wpTail P l.toArray C (Q .normal) (b - dn.length) (rest.filterMap (fun i => l[i]?)) (putAll 0 l (fullU mask val (updU us' i v)) a0) w') := by
        intro v w' hc htw'
        refine ⟨hs', fun k hk hdk => ?_, fun k hk => ?_, dn ++ [i], rest', by rw [hsp]; simp, fun k hk => ?_, fun k hk => ?_, fun hb' => ?_, .inr ?_⟩
        · have hki : k ≠ i := by rintro rfl; rw [hT] at hk; cases hk
          unfold setD at hdk
          unfold updU
          rw [if_neg hki] at hdk ⊢
          exact hv k hk hdk
        · unfold setD at hk
          unfold updU
          by_cases e : k = i
          · rw [if_pos e] at hk; cases hk
          · rw [if_neg e] at hk ⊢
            exact hu k hk
        · unfold setD
          by_cases e : k = i
          · rw [if_pos e]
          · rw [if_neg e]
            rcases List.mem_append.1 hk with h1 | h1
            · exact hdn k h1
            · simp at h1; exact absurd h1 e
        · have hki : k ≠ i := by
            rintro rfl
            have := laterB_gt hback _ _ (pairB_spec (dn := dn) (hsp ▸ hpair) hk)
            omega
          unfold setD
          rw [if_neg hki]
          exact hrest k (List.mem_cons_of_mem _ hk)
        · simp at hb'
          exact hc (by omega)
        · rw [← hfr v, List.length_append, List.length_singleton, Nat.sub_add_eq]
          exact htw'
      have hone := htw (fun ex a' w' => ex = .normal ∧ a'.defers = (putAll 0 l (fullU mask val us') a0).defers ∧ (0 < b - dn.length → C w') ∧ wpTail P l.toArray C (Q .normal) (b - dn.length - 1) (rest'.filterMap (fun i => l[i]?)) a' w')
        (fun a' w' h1 h2 h3 => ⟨rfl, h1, h2, h3⟩)
      unfold wpList at hone
      rw [hag.2]
      by_cases hw : Region.wanted o (yielded l.toArray (putAll 0 l (fullU mask val us') a0).tmps) = true
      · rw [if_pos hw] at hone
        refine .inl ⟨hw, fun K Q2 hK => ?_⟩
        rcases hone with hone | ⟨_, a1, w1, h1, _⟩
        · unfold Oper.wp at hone ⊢
          rw [hag.1]
          generalize (execOp (putAll 0 l (fullU mask val us') a0).eval o).run P w = r at *
          cases r with
          | ok n w1 =>
            cases n <;> simp only [Oper.upon] at hone ⊢
            case value v =>
              unfold wpList at hone
              exact hK v w1 (next v w1 hone.2.2.1 hone.2.2.2)
            case skip =>
              unfold wpList at hone
              exact hK undef w1 (next undef w1 hone.2.2.1 hone.2.2.2)
            case defer dd =>
              unfold wpList at hone
              exfalso
              have := hone.2.1
              cases hdst : o.dst <;> simp [Act.put, hdst] at this
            case enter f args =>
              refine hone.mono fun e w2 he => ?_
              cases e with
              | returned v =>
                unfold wpList at he
                exact hK v w2 (next v w2 he.2.2.1 he.2.2.2)
              | panicked c => exact absurd he.1 (by simp)
              | outgrown =>
                obtain ⟨a1, w3, h1, _⟩ := he
                cases h1
            case row rr args =>
              refine Rows.mono hone fun v w2 he => ?_
              unfold wpList at he
              exact hK v w2 (next v w2 he.2.2.1 he.2.2.2)
          | halt x w1 =>
            cases x <;> simp only [Oper.upon] at hone ⊢
            exact absurd hone.1 (by simp)
        · cases h1
      · rw [if_neg hw] at hone
        unfold wpList at hone
        exact .inr ⟨hw, next undef w hone.2.2.1 hone.2.2.2⟩
    · -- an early one
      obtain ⟨p, hmk⟩ : ∃ p, mask[i]? = some (some p) := by
        have : i < mask.length := by omega
        cases hq : mask[i]? with
        | none => rw [List.getElem?_eq_none_iff] at hq; omega
        | some x =>
          cases x with
          | none => unfold isT at hT; rw [hq] at hT; cases hT
          | some p => exact ⟨p, rfl⟩
      have hy := hvY i o p hi hmk
      rw [Nat.zero_add] at hy
      have hag := exec_agree (l := l) (a0 := a0) (us := us') (us' := fun j => if j < i then val j else selfU l a0 j) (selO i o hi) (fun j q t hj hdst ht => by
        rcases looks hi hj hdst ht with h1 | h1
        · have hl1 := direct hi h1
          have hlt := laterB_gt hback _ _ hl1
          rw [if_pos hlt]
          refine hv j ?_ (onp h1)
          rcases Bool.eq_false_or_eq_true (isT mask j) with hTj | hTj
          · rw [notlater (lt_of hj) hi' hTj hT] at hl1; cases hl1
          · exact hTj
        · have hlt := laterB_gt hback _ _ h1
          rw [if_neg (by omega)]
          exact hu j (later0 h1))
      have hy' := hy.of_same hag.1 hag.2
      have next : ∀ w', (dn.length ≤ b → C w') → (w' = w ∨ dn = []) →
          Shut l (setD d i) ∧ (∀ k, isT mask k = false → setD d i k = true → updU us' i (val i) k = val k) ∧ (∀ k, setD d i k = false → updU us' i (val i) k = selfU l a0 k) ∧
          ∃ dn rest, tailIx 0 mask = dn ++ rest ∧ (∀ i_1 ∈ dn, setD d i i_1 = true) ∧ (∀ i_1 ∈ rest, setD d i i_1 = false) ∧ (dn.length ≤ b → C w') ∧
            (dn = [] ∨ wpTail P l.toArray C (Q .normal) (b - dn.length) (rest.filterMap (fun i => l[i]?)) (putAll 0 l (fullU mask val (updU us' i (val i))) a0) w') := by
        intro w' hc hww
        refine ⟨hs', fun k hk hdk => ?_, fun k hk => ?_, dn, rest, hsp, fun k hk => ?_, fun k hk => ?_, hc, ?_⟩
        · unfold updU
          by_cases e : k = i
          · rw [if_pos e, e]
          · rw [if_neg e]
            unfold setD at hdk
            rw [if_neg e] at hdk
            exact hv k hk hdk
        · unfold setD at hk
          unfold updU
          by_cases e : k = i
          · rw [if_pos e] at hk; cases hk
          · rw [if_neg e] at hk ⊢
            exact hu k hk
        · unfold setD
          by_cases e : k = i
          · rw [if_pos e]
          · rw [if_neg e]
            exact hdn k hk
        · have hki : k ≠ i := by
            rintro rfl
            have : isT mask k = true := isT_iff.2 (by rw [hsp]; exact List.mem_append_right _ hk)
            rw [hT] at this
            cases this
          unfold setD
          rw [if_neg hki]
          exact hrest k hk
        · rcases htl with h1 | h1
          · exact .inl h1
          · rcases hww with rfl | h2
            · right
              have e : putAll 0 l (fullU mask val (updU us' i (val i))) a0 = putAll 0 l (fullU mask val us') a0 := putAll_congr l 0 _ _ _ (fun j _ => by
                unfold fullU updU
                split
                · rename_i hTj
                  rw [if_neg (by rintro rfl; rw [hT] at hTj; cases hTj)]
                · rfl)
              rw [e]
              exact h1
            · exact .inl h2
      have hcls : clsOf C p w := by
        unfold clsOf
        cases p with
        | true => trivial
        | false =>
          refine hCw ?_
          rcases Nat.lt_or_ge b dn.length with hlt | hge
          · exfalso
            have h1 := allIx_at himp i hi'
            have hP : isP mask i = false := by unfold isP; rw [hmk]
            have hget : (tailIx 0 mask)[b]? = some (dn[b]) := by rw [hsp, List.getElem?_append_left hlt, List.getElem?_eq_getElem hlt]
            simp only [hT, hP, hget, Bool.false_or] at h1
            have := later0 h1
            rw [hdn _ (List.getElem_mem hlt)] at this
            cases this
          · exact hge
      rcases hy' with ⟨hw, hq⟩ | ⟨hw, hundef⟩
      · refine .inl ⟨hw, fun K Q2 hK => ?_⟩
        have hq1 := hq w hcls
        unfold Oper.quietAt at hq1
        unfold Oper.wp
        generalize hr : (execOp (putAll 0 l us' a0).eval o).run P w = r at *
        cases r with
        | ok n w1 =>
          cases n <;> simp only [Oper.quietUpon] at hq1 <;> simp only [Oper.upon]
          case value u =>
            obtain ⟨rfl, rfl⟩ := hq1
            exact hK _ _ (next _ hCw (.inl rfl))
          case skip =>
            obtain ⟨rfl, e⟩ := hq1
            rw [← e]
            exact hK _ _ (next _ hCw (.inl rfl))
          case enter f args =>
            obtain ⟨rfl, hcl⟩ := hq1
            refine hcl.mono fun e w2 ⟨he, hw2⟩ => ?_
            subst he
            have hic : isCall o = true := by
              rcases Bool.eq_false_or_eq_true (isCall o) with h1 | h1
              · exact h1
              · exact absurd hr (fun h2 => not_enter h1 h2)
            have h1 := allIx_at hcall i hi'
            simp only [hT, hi, hic, Bool.false_or, Bool.not_true, Bool.and_eq_true, Bool.not_eq_true'] at h1
            have hp0 : p = false := by
              have := h1.1
              unfold isP at this
              rw [hmk] at this
              cases p
              · rfl
              · cases this
            subst hp0
            have hdn0 : dn = [] := by
              cases dn with
              | nil => rfl
              | cons t dn' =>
                exfalso
                have h2 := h1.2
                rw [hsp] at h2
                simp only [List.cons_append, List.getElem?_cons_zero] at h2
                have := later0 h2
                rw [hdn t (by simp)] at this
                cases this
            exact hK _ _ (next _ (fun _ => hw2) (.inr hdn0))
        | halt x w1 => simp only [Oper.quietUpon] at hq1
      · refine .inr ⟨by rw [hw]; decide, ?_⟩
        have := next w hCw (.inl rfl)
        rw [hundef] at this
        exact this
  · rintro d us w ⟨hs, hv, hu, dn, rest, hsp, hdn, hrest, hCw, htl⟩ hall
    have hrest0 : rest = [] := by
      cases rest with
      | nil => rfl
      | cons t r =>
        exfalso
        have h1 : t ∈ tailIx 0 mask := by rw [hsp]; simp
        have h2 := (tailIx_mem mask 0 t).1 h1
        have : t < l.length := by
          rw [hlen]
          exact (List.getElem?_eq_some_iff.1 (by simpa using h2.2)).1
        have h3 := hall t this
        rw [hrest t (by simp)] at h3
        cases h3
    subst hrest0
    have hfin : ∀ us2 : Nat → Value, (∀ j, j < l.length → isT mask j = false → us2 j = us j) → (∀ j, isT mask j = true → us2 j = us j) → putAll 0 l us2 a0 = putAll 0 l us a0 := fun us2 h1 h2 => putAll_congr_lt l 0 _ _ _ (fun j _ hj => by
      rcases Bool.eq_false_or_eq_true (isT mask j) with hTj | hTj
      · exact h2 j hTj
      · exact h1 j (by omega) hTj)
    rcases htl with rfl | h1
    · have h1 := hend w (hCw (Nat.zero_le _))
      rw [hsp] at h1
      simp only [List.append_nil, List.filterMap_nil] at h1
      have e := hfin val (fun j hj hTj => (hv j hTj (hall j hj)).symm) (fun j hTj => by
        exfalso
        have := isT_iff.1 hTj
        rw [hsp] at this
        simp at this)
      rw [e] at h1
      cases b <;> exact h1
    · have e := hfin (fullU mask val us) (fun j hj hTj => by unfold fullU; rw [if_neg (by rw [hTj]; decide)]; exact (hv j hTj (hall j hj)).symm) (fun j hTj => by unfold fullU; rw [if_pos hTj])
      rw [e] at h1
      simp only [List.filterMap_nil] at h1
      generalize b - dn.length = bb at h1
      cases bb <;> exact h1
/-- What comes behind a region, behind a variable. -/
theorem wp_hide {c : Code} {a : Act} {w : World} (h : ∀ Q0 : Exit → Act → World → Prop, (∀ a w, Q .normal a w → Q0 .normal a w) → c.wp P Q0 a w) : c.wp P Q a w := h Q (fun _ _ h => h)
end
end Go.Proofs.YtfnlponoakhegaaDoor
namespace Go.Proofs.YtfnlponoakhegaaDoor
open Go.RowKit
set_option linter.unusedVariables false
set_option linter.unusedSimpArgs false

/-- All blocks but some are az they were. -/
structure KeptBut (w w' : World) (S : Nat → Prop) : Prop where
  os : w'.os = w.os
  tape : w'.tape = w.tape
  output : w'.output = w.output
  size : w.heap.size ≤ w'.heap.size
  block : ∀ k, k < w.heap.size → ¬ S k → w'.heap[k]? = w.heap[k]?
theorem KeptBut.refl (w : World) (S : Nat → Prop) : KeptBut w w S := ⟨rfl, rfl, rfl, Nat.le_refl _, fun _ _ _ => rfl⟩
theorem KeptBut.drew {w w' : World} {S : Nat → Prop} (h : KeptBut w w' S) : KeptBut w w'.drew S := ⟨h.os, h.tape, h.output, h.size, h.block⟩
theorem KeptBut.below {w w' : World} {S : Nat → Prop} (h : KeptBut w w' S) {B : Nat} (hS : ∀ k, S k → B ≤ k) (hB : B ≤ w.heap.size) : Below B w w' :=
  ⟨h.os, h.tape, h.output, h.size, fun k hk => h.block k (by omega) (fun hs => by have := hS k hs; omega)⟩
theorem KeptBut.then_below {w w' w'' : World} {S : Nat → Prop} (h : KeptBut w w' S) (hb : Below w'.heap.size w' w'') : KeptBut w w'' S :=
  ⟨hb.os.trans h.os, hb.tape.trans h.tape, hb.output.trans h.output, Nat.le_trans h.size hb.size, fun k hk hs => (hb.block k (by have := h.size; omega)).trans (h.block k hk hs)⟩
theorem KeptBut.then_grown {w w' w'' : World} {S : Nat → Prop} (h : KeptBut w w' S) {row : Option Nat} (hg : w'.grownBy w'' row) (hr : ∀ k, row = some k → S k) : KeptBut w w'' S :=
  ⟨hg.os.trans h.os, hg.tape.trans h.tape, hg.output.trans h.output, Nat.le_trans h.size hg.size, fun k hk hs => (hg.block k (by have := h.size; omega) (fun e => hs (hr k e.symm))).trans (h.block k hk hs)⟩
theorem KeptBut.then_set {w w' : World} {S : Nat → Prop} (h : KeptBut w w' S) {b o : Nat} {v : Value} (hb : S b) : KeptBut w (w'.setCell ⟨b, o, none⟩ v) S :=
  ⟨h.os, h.tape, h.output, by simpa [World.setCell] using h.size, fun k hk hs => (Below.heap_setCell _ _ _ _ (fun e => hs (by rw [e]; exact hb))).trans (h.block k hk hs)⟩
theorem KeptBut.cell {w w' : World} {S : Nat → Prop} (h : KeptBut w w' S) (a : Addr) (ha : a.block < w.heap.size) (hs : ¬ S a.block) : w'.cell? a = w.cell? a := World.cell?_of_block (h.block a.block ha hs)
theorem KeptBut.reads {w w' : World} {S : Nat → Prop} (h : KeptBut w w' S) {m n : Nat} {A : Option Addr} {xs : List Value} (hr : Reads w w.heap.size m A n xs) (hs : ∀ ad, A = some ad → ¬ S ad.block) : Reads w' w'.heap.size m A n xs :=
  ⟨hr.1, fun hn => by
    obtain ⟨ad, e, hb, hc⟩ := hr.2 hn
    refine ⟨ad, e, by have := h.size; omega, fun j u hu => ?_⟩
    rw [h.cell _ (by rw [block_of_add]; exact hb) (by rw [block_of_add]; exact hs ad e)]
    exact hc j u hu⟩

theorem KeptBut.of_below {w w' : World} {S : Nat → Prop} (h : Below w.heap.size w w') : KeptBut w w' S := (KeptBut.refl w S).then_below h
theorem KeptBut.mono {w w' : World} {S S' : Nat → Prop} (h : KeptBut w w' S) (hS : ∀ k, k < w.heap.size → S k → S' k) : KeptBut w w' S' :=
  ⟨h.os, h.tape, h.output, h.size, fun k hk hs => h.block k hk (fun h' => hs (hS k hk h'))⟩
theorem KeptBut.trans {w w' w'' : World} {S S' : Nat → Prop} (h : KeptBut w w' S) (h' : KeptBut w' w'' S') (hS : ∀ k, k < w.heap.size → S' k → S k) : KeptBut w w'' S :=
  ⟨h'.os.trans h.os, h'.tape.trans h.tape, h'.output.trans h.output, Nat.le_trans h.size h'.size, fun k hk hs => (h'.block k (by have := h.size; omega) (fun e => hs (hS k hk e))).trans (h.block k hk hs)⟩
theorem Blk.keptB {w w' : World} {S : Nat → Prop} {g t : Nat} {cs : Array Value} (h : Blk w g t cs) (hk : KeptBut w w' S) (hs : ¬ S g) : Blk w' g t cs := (hk.block g h.lt hs).trans h
theorem own_lt {w : World} {B e size n : Nat} {v : Value} {xs : List Value} (h : w.ownsRow B e size v n xs) : ∀ k, v.ownBlock = some k → B ≤ k ∧ k < w.heap.size := World.ownsRow.lt h
theorem own_block {w w' : World} {B e size n : Nat} {v : Value} {xs : List Value} (h : w.ownsRow B e size v n xs) (hb : ∀ k, v.ownBlock = some k → w'.heap[k]? = w.heap[k]?) : w'.ownsRow B e size v n xs := by
  rcases h with ⟨h1, ⟨h2, h3⟩ | ⟨g, cap, cur, hv, ha, hh, rest⟩⟩
  · exact ⟨h1, .inl ⟨h2, h3⟩⟩
  · refine ⟨h1, .inr ⟨g, cap, cur, hv, ha, ?_, rest⟩⟩
    rw [hb g (by rw [hv]; rfl)]
    exact hh
theorem own_base {w : World} {B e size n : Nat} {v : Value} {xs : List Value} (h : w.ownsRow B e size v n xs) : w.ownsRow 0 e size v n xs :=
  ⟨h.1, h.2.imp id fun ⟨g, cap, cur, hv, _, rest⟩ => ⟨g, cap, cur, hv, Nat.zero_le _, rest⟩⟩
theorem own_kept {w w' : World} {S : Nat → Prop} {B e size n : Nat} {v : Value} {xs : List Value} (h : w.ownsRow B e size v n xs) (hk : KeptBut w w' S) (hs : ∀ k, v.ownBlock = some k → ¬ S k) : w'.ownsRow B e size v n xs :=
  own_block h fun k hk' => hk.block k (own_lt h k hk').2 (hs k hk')
theorem bcell {W w1 : World} (hb : Below W.heap.size W w1) : (∀ b o, b < W.heap.size → w1.cell? ⟨b, o, none⟩ = W.cell? ⟨b, o, none⟩) ∧ (∀ b o, b < W.heap.size → w1.frozen? ⟨b, o, none⟩ = W.frozen? ⟨b, o, none⟩) :=
  ⟨fun b o h => hb.cell (p := ⟨b, o, none⟩) h, fun b o h => hb.frozen (p := ⟨b, o, none⟩) h⟩

def bs (l : List UInt8) : ByteArray := ⟨l.toArray⟩
theorem bs_of (s : ByteArray) : bs s.data.toList = s := by unfold bs; cases s; simp
theorem bs_size (l : List UInt8) : (bs l).size = l.length := by simp [bs, ByteArray.size]
theorem bs_data (l : List UInt8) : (bs l).data.toList = l := by simp [bs]
theorem bs_toList (l : List UInt8) : (bs l).toList = l := by rw [ByteArray.toList_eq, bs_data]
theorem bs_append (a b : List UInt8) : bs a ++ bs b = bs (a ++ b) := by
  unfold bs
  apply ByteArray.ext
  simp
end Go.Proofs.YtfnlponoakhegaaDoor
namespace Go.Proofs.YtfnlponoakhegaaDoor
open Go.RowKit
set_option linter.unusedVariables false
set_option linter.unusedSimpArgs false

theorem dlen (s : ByteArray) : s.data.toList.length = s.size := (Lib.size_eq s).symm
def sumL (ss : List ByteArray) : Nat := (ss.map fun s => s.size + 9).sum

theorem new_u64 (w : World) (X : Int) (t : TypeId) : Reads (w.alloc (.cells #[.int .u64 X] t)) (w.heap.size + 1) 1 (some ⟨w.heap.size, 0, none⟩) 1 [.int .u64 X] := by
  refine ⟨rfl, fun _ => ⟨_, rfl, by simp, fun j u hu => ?_⟩⟩
  cases j with
  | zero =>
    simp at hu
    subst hu
    simp only [Addr.add, if_true]
    rw [World.cell?_alloc_new]
    rfl
  | succ j => simp at hu
theorem textL_snoc (a : List (List UInt8)) (s : List UInt8) : textL (a ++ [s]) = textL a ++ (varL1 s.length ++ s) := by
  induction a with
  | nil => simp [textL]
  | cons x a ih => simp [textL, ih]

theorem textL_take (a : List (List UInt8)) (k : Nat) : (textL (a.take k)).length ≤ (textL a).length := by
  induction a generalizing k with
  | nil => simp
  | cons x a ih =>
    cases k with
    | zero => simp [textL]
    | succ k => have := ih k; simp [textL]; omega
theorem varL_one (n : Nat) : varL [n] = varL1 n := by simp [varL]

set_option maxRecDepth 100000 in
set_option maxHeartbeats 2000000 in
theorem Text_any (A : Option Addr) (ss : List ByteArray) (cap : Nat) (w : World) (hr : Reads w w.heap.size 1 A ss.length (ss.map Value.string)) (hlen : ss.length ≤ 4294967296) (hsz : (textL (ss.map fun s => s.data.toList)).length ≤ 4611686018427387904) :
    Calls Tryd.prog 55 #[.slice A ss.length cap] w fun e w' => e = .returned (.string (bs (textL (ss.map fun s => s.data.toList)))) ∧ Below w.heap.size w w' := by
  go_enter Tryd.func55, Tryd.ntmps55
  go_wp2
  go_loopw [3, 8] (fun b i wr => ∃ (k : Nat), k ≤ ss.length ∧ i = .int .i64 k ∧ b = .string (bs (textL ((ss.take k).map fun s => s.data.toList))) ∧ Below w.heap.size w wr) (fun _ i _ => ss.length - (intOf i).toNat)
  case atStart => exact ⟨0, Nat.zero_le _, rfl, rfl, Below.refl _ _⟩
  case round =>
    obtain ⟨k, hk, rfl, rfl, hb0⟩ := hrel
    by_cases hlt : k < ss.length
    · obtain ⟨ad, v, rfl, hab, hx, hc⟩ := (hr.below hb0).at_ hlt
      obtain ⟨s, hn, rfl⟩ : ∃ n, ss[k]? = some n ∧ v = .string n := by
        simp at hx
        obtain ⟨n, h1, rfl⟩ := hx
        exact ⟨n, h1, rfl⟩
      clear hx
      have hz := hb0.size
      have hsn : textL ((ss.take (k + 1)).map fun s => s.data.toList) = textL ((ss.take k).map fun s => s.data.toList) ++ (varL1 s.size ++ s.data.toList) := by
        rw [List.take_succ_eq_append_getElem hlt, List.map_append, List.map_cons, List.map_nil, textL_snoc, show ss[k] = s from by have := List.getElem?_eq_getElem hlt; rw [this] at hn; simpa using hn]
        rw [dlen s]
      have htk := textL_take (ss.map fun s => s.data.toList) (k + 1)
      rw [← List.map_take, hsn] at htk
      simp only [List.length_append] at htk
      rw [dlen s] at htk
      replace hn := Lib.hid hn
      replace hsn := Lib.hid hsn
      generalize hL : textL ((ss.take k).map fun s => s.data.toList) = L at *
      replace hL := Lib.hid hL
      have hv1 := varL_one s.size
      have q1 : (varL [s.size]).length + s.size ≤ 9223372036854775807 := by rw [hv1]; omega
      have q2 : (bs L).size + ((varL [s.size]).length + s.size) ≤ 9223372036854775807 := by rw [hv1, bs_size]; omega
      replace hv1 := Lib.hid hv1
      have hs : s.size ≤ 4611686018427387904 := by omega
      clear htk hsz
      go_wp2_with fail
      refine (Var_any _ [(s.size : Int)] _ _ ?_ ?_ (by simp)).mono ?_
      · simpa using new_u64 wr s.size 24
      · intro n hn; simp at hn; subst hn; exact ⟨by omega, by omega⟩
      rintro e w1 ⟨rfl, hb1⟩
      have hb2 := hb1.mono (B' := w.heap.size) (by simp; omega)
      go_wp2_with fail
      refine ⟨⟨k + 1, by omega, by go_num, ?_, (hb0.alloc hz _).trans hb2⟩, by simp [intOf]; omega⟩
      have e : bs L ++ ({ data := (varL [s.size]).toArray } ++ s) = bs (textL ((ss.take (k + 1)).map fun s => s.data.toList)) := by
        rw [hsn.out, hv1.out, ← bs_append, ← bs_append, bs_of]
        rfl
      exact congrArg Value.string e
    · obtain rfl : k = ss.length := by omega
      go_wp2_with fail
      go_ret
      exact ⟨by simp, hb0⟩
end Go.Proofs.YtfnlponoakhegaaDoor
namespace Go.Proofs.YtfnlponoakhegaaDoor
open Go.RowKit
set_option linter.unusedVariables false
set_option linter.unusedSimpArgs false

/-- What '[]byte(s)' does. -/
theorem conv_bytes (w : World) (s : ByteArray) : ∃ cap W2, (convert 9 34 (.string s)).run Tryd.prog w = .ok (.slice (some ⟨w.heap.size, 0, none⟩) s.size cap) W2 ∧ Below w.heap.size w W2 ∧ W2.heap.size = w.heap.size + 1 ∧ ∀ j, j < s.size → W2.cell? ⟨w.heap.size, j, none⟩ = some (B8 (s.data.toList.getD j 0)) :=
  ⟨_, _, Lib.run_convert_string_bytes w 9 34 5 s Tryd.underlying9 Tryd.underlying34 Tryd.underlying5,
    ⟨rfl, rfl, rfl, by rw [Lib.bytesWorld_size]; omega, fun k hk => Lib.bytesWorld_at_old w _ s k hk⟩, Lib.bytesWorld_size w _ s, fun j hj => Lib.bytesWorld_cell w _ s j hj⟩

def outV (o : Option Nat) : Value := .tuple #[.int .u64 ((o.getD 0 : Nat) : Int), .bool o.isSome]
set_option maxRecDepth 100000 in
set_option maxHeartbeats 2000000 in
theorem ReadBig_any (s : ByteArray) (width : Int) (w : World) (hs : s.size ≤ maxLen) (h0 : -9223372036854775808 ≤ width) (h1 : width ≤ 9223372036854775807) :
    Calls Tryd.prog 60 #[.string s, .int .i64 width] w fun e w' => e = .returned (outV (readBig s.data.toList width)) ∧ Below w.heap.size w w' := by
  unfold maxLen at hs
  have hl := dlen s
  by_cases hbad : width < 1 ∨ 8 < width ∨ (s.size : Int) < width
  · have hr : readBig s.data.toList width = none := by unfold readBig; rw [if_pos (by rw [hl]; exact hbad)]
    replace hr := Lib.hid hr
    clear hl
    go_enter Tryd.func60, Tryd.ntmps60
    go_wp2
    all_goals go_ret2
    all_goals exact ⟨by rw [hr.out]; rfl, Below.refl _ _⟩
  · have hr : readBig s.data.toList width = some (beV (s.data.toList.take width.toNat)) := by unfold readBig; rw [if_neg (by rw [hl]; exact hbad)]
    replace hr := Lib.hid hr
    obtain ⟨m, rfl⟩ : ∃ m : Nat, width = m := ⟨width.toNat, by omega⟩
    have hm1 : 1 ≤ m := by omega
    have hm8 : m ≤ 8 := by omega
    have hms : m ≤ s.size := by omega
    clear hbad hl
    obtain ⟨cap, W2, hrun, hbW, hzW, hcells⟩ := conv_bytes w (s.extract 0 m)
    go_enter Tryd.func60, Tryd.ntmps60
    go_wp2_with fail
    have hsz : (s.extract 0 m).size = m := by simp; omega
    have hdl : (s.extract 0 m).data.toList = s.data.toList.take m := by simp
    go_loopw [4, 25] (fun v i wr => ∃ (k : Nat), k ≤ m ∧ i = .int .i64 k ∧ v = .int .u64 (beV (s.data.toList.take k)) ∧ W2 = wr) (fun _ i _ => m - (intOf i).toNat)
    case atStart => exact ⟨0, Nat.zero_le _, rfl, rfl, rfl⟩
    case round =>
      obtain ⟨k, hk, rfl, rfl, rfl⟩ := hrel
      by_cases hlt : k < m
      · have hc := hcells k (by omega)
        rw [hdl] at hc
        have hks : k < s.data.toList.length := by rw [dlen]; omega
        have hsn : beV (s.data.toList.take (k + 1)) = beV (s.data.toList.take k) * 256 + (s.data.toList[k]).toNat := by
          rw [List.take_succ_eq_append_getElem hks, beV_snoc]
        have hcc : (s.data.toList.take m).getD k 0 = s.data.toList[k] := by
          rw [List.getD_eq_getElem?_getD, List.getElem?_take_of_lt hlt, List.getElem?_eq_getElem hks]; rfl
        rw [hcc] at hc
        have hlt2 := beV_lt (s.data.toList.take k)
        rw [List.length_take, Nat.min_eq_left (by omega)] at hlt2
        have hp : 256 ^ k ≤ 256 ^ 7 := Nat.pow_le_pow_right (by omega) (by omega)
        have hx : beV (s.data.toList.take k) < 72057594037927936 := by omega
        have hy := (s.data.toList[k]).toNat_lt
        clear hp hlt2 hcells hcc
        replace hsn := Lib.hid hsn
        generalize beV (s.data.toList.take k) = x at *
        generalize s.data.toList[k] = c at *
        unfold B8 at hc
        clear hsz hdl
        go_wp2_with fail
        refine ⟨⟨k + 1, by omega, by go_num, congrArg (Value.int .u64) ?_, trivial⟩, by simp [intOf]; omega⟩
        rw [hsn.out, u64_or _ _ (by omega) (by omega) (by omega) (by omega)]
        rw [show ((x : Int) * 256).toNat = x * 256 from by omega, show ((c.toNat : Nat) : Int).toNat = c.toNat from by omega, or_byte x _ (by omega)]
      · obtain rfl : k = m := by omega
        go_wp2_with fail
        go_ret2
        exact ⟨by rw [hr.out]; rfl, hbW⟩
theorem ReadBig_none (s : ByteArray) (width : Int) (w : World) (hs : s.size ≤ maxLen) (h0 : -9223372036854775808 ≤ width) (h1 : width ≤ 9223372036854775807) (h : readBig s.data.toList width = none) :
    Calls Tryd.prog 60 #[.string s, .int .i64 width] w fun e w' => e = .returned (.tuple #[.int .u64 0, .bool false]) ∧ Below w.heap.size w w' := by
  have := ReadBig_any s width w hs h0 h1
  rw [h] at this
  exact this
theorem ReadBig_some (s : ByteArray) (width : Int) (n : Nat) (w : World) (hs : s.size ≤ maxLen) (h0 : -9223372036854775808 ≤ width) (h1 : width ≤ 9223372036854775807) (h : readBig s.data.toList width = some n) :
    Calls Tryd.prog 60 #[.string s, .int .i64 width] w fun e w' => e = .returned (.tuple #[.int .u64 n, .bool true]) ∧ Below w.heap.size w w' := by
  have := ReadBig_any s width w hs h0 h1
  rw [h] at this
  exact this
end Go.Proofs.YtfnlponoakhegaaDoor
namespace Go.Proofs.YtfnlponoakhegaaDoor
open Go.RowKit
set_option linter.unusedVariables false
set_option linter.unusedSimpArgs false

def outVar (o : Option (Nat × Nat)) : Value := .tuple #[.int .u64 (((o.map (·.1)).getD 0 : Nat) : Int), .int .i64 (((o.map (·.2)).getD 0 : Nat) : Int), .bool o.isSome]

set_option maxRecDepth 100000 in
set_option maxHeartbeats 2000000 in
theorem ReadVar_any (s : ByteArray) (w : World) (hs : s.size ≤ maxLen) :
    Calls Tryd.prog 63 #[.string s] w fun e w' => e = .returned (outVar (readVar s.data.toList)) ∧ Below w.heap.size w w' := by
  unfold maxLen at hs
  have hl := dlen s
  cases hd : s.data.toList with
  | nil =>
    have h1 : s.toList.isEmpty = true := by rw [ByteArray.toList_eq, hd]; rfl
    have h2 : s.toList = [] := by rw [ByteArray.toList_eq, hd]
    clear hl
    go_enter Tryd.func63, Tryd.ntmps63
    go_wp2
    go_ret3
    exact ⟨rfl, Below.refl _ _⟩
  | cons c r =>
    have h1 : s.toList.isEmpty = false := by rw [ByteArray.toList_eq, hd]; rfl
    have h2 : ¬ s.toList = [] := by rw [ByteArray.toList_eq, hd]; simp
    have h3 : 0 < s.size := by rw [← hl, hd]; simp
    have h4 : s[0] = c := by
      have : s.data.toList[0]'(by rw [hd]; simp) = c := by simp [hd]
      rw [← this]; rfl
    have h5 : (s.extract 1 s.size).data.toList = r := by rw [Lib.extract_to_end, hd]; rfl
    have hc := c.toNat_lt
    replace hd := Lib.hid hd
    clear hl
    by_cases hlo : c.toNat < 248
    · go_enter Tryd.func63, Tryd.ntmps63
      go_wp2_with fail
      go_ret3
      exact ⟨by simp [outVar, readVar, hlo], Below.refl _ _⟩
    · have hk : ((c.toNat : Int) - 248 + 1) = ((c.toNat - 247 : Nat) : Int) := by omega
      replace hk := Lib.hid hk
      have hrv : readVar (c :: r) = (match readBig r (((c.toNat - 247 : Nat) : Nat) : Int) with
        | none => none
        | some n => if behindN n = c.toNat - 247 then some (n, 1 + (c.toNat - 247)) else none) := by simp only [readVar]; rw [if_neg hlo]; rfl
      replace hrv := Lib.hid hrv
      cases hq : readBig r (((c.toNat - 247 : Nat) : Nat) : Int) with
      | none =>
        have hx := ReadBig_none (s.extract 1 s.size) _ w (by unfold maxLen; simp; omega) (by omega) (by omega) (h5.symm ▸ hq)
        replace hx := Lib.hid hx
        replace hq := Lib.hid hq
        go_enter Tryd.func63, Tryd.ntmps63
        go_wp2_with fail
        rw [hk.out]
        refine hx.out.mono ?_
        rintro e w1 ⟨rfl, hb⟩
        go_wp2_with fail
        go_ret3
        exact ⟨by rw [hrv.out, hq.out]; rfl, hb⟩
      | some n =>
        have hx := ReadBig_some (s.extract 1 s.size) _ n w (by unfold maxLen; simp; omega) (by omega) (by omega) (h5.symm ▸ hq)
        replace hx := Lib.hid hx
        have hn := readBig_lt hq
        have hn' : (n : Int) ≤ 18446744073709551615 := by omega
        clear hn
        have hbl := behindN_le n
        replace hq := Lib.hid hq
        by_cases he : behindN n = c.toNat - 247
        · replace he := Lib.hid he
          go_enter Tryd.func63, Tryd.ntmps63
          go_wp2_with fail
          rw [hk.out]
          refine hx.out.mono ?_
          rintro e w1 ⟨rfl, hb⟩
          go_wp2_with fail
          refine (behind_any n _ (by omega) hn').mono ?_
          rintro e w' ⟨rfl, rfl⟩
          rw [Int.toNat_natCast, he.out]
          go_wp2_with fail
          go_ret3
          refine ⟨?_, hb⟩
          rw [hrv.out, hq.out]
          simp only [he.out, if_true]
          simp [outVar]
        · go_enter Tryd.func63, Tryd.ntmps63
          go_wp2_with fail
          rw [hk.out]
          refine hx.out.mono ?_
          rintro e w1 ⟨rfl, hb⟩
          go_wp2_with fail
          refine (behind_any n _ (by omega) hn').mono ?_
          rintro e w' ⟨rfl, rfl⟩
          rw [Int.toNat_natCast]
          go_wp2_with fail
          go_ret3
          refine ⟨?_, hb⟩
          rw [hrv.out, hq.out]
          simp only [he, if_false]
          rfl
theorem ext_bs (s : ByteArray) (a b : Nat) : s.extract a b = bs ((s.data.toList.drop a).take (b - a)) := by
  apply ByteArray.ext
  apply Array.toList_inj.1
  rw [bs_data]
  simp [List.take_drop]
theorem readVar_le {l : List UInt8} {n k : Nat} (h : readVar l = some (n, k)) : 1 ≤ k ∧ k ≤ l.length ∧ n < 18446744073709551616 := by
  cases l with
  | nil => simp [readVar] at h
  | cons c r =>
    have hc := c.toNat_lt
    simp only [readVar] at h
    split at h
    · simp at h; obtain ⟨rfl, rfl⟩ := h
      refine ⟨by omega, by simp, by omega⟩
    · split at h
      · cases h
      · rename_i m hm
        split at h
        · simp at h
          obtain ⟨rfl, rfl⟩ := h
          refine ⟨by omega, ?_, readBig_lt hm⟩
          unfold readBig at hm
          split at hm
          · cases hm
          · rename_i hk; simp; omega
        · cases h

def outText (o : Option (List UInt8 × Nat)) : Value := .tuple #[.string (bs ((o.map (·.1)).getD [])), .int .i64 (((o.map (·.2)).getD 0 : Nat) : Int), .bool o.isSome]
theorem ReadVar_none (s : ByteArray) (w : World) (hs : s.size ≤ maxLen) (h : readVar s.data.toList = none) :
    Calls Tryd.prog 63 #[.string s] w fun e w' => e = .returned (.tuple #[.int .u64 0, .int .i64 0, .bool false]) ∧ Below w.heap.size w w' := by
  have := ReadVar_any s w hs
  rw [h] at this
  exact this
theorem ReadVar_some (s : ByteArray) (n k : Nat) (w : World) (hs : s.size ≤ maxLen) (h : readVar s.data.toList = some (n, k)) :
    Calls Tryd.prog 63 #[.string s] w fun e w' => e = .returned (.tuple #[.int .u64 n, .int .i64 k, .bool true]) ∧ Below w.heap.size w w' := by
  have := ReadVar_any s w hs
  rw [h] at this
  exact this

set_option maxRecDepth 100000 in
set_option maxHeartbeats 2000000 in
theorem ReadText_any (s : ByteArray) (most : Int) (w : World) (hs : s.size ≤ maxLen) (h0 : -9223372036854775808 ≤ most) (h1 : most ≤ 9223372036854775807) :
    Calls Tryd.prog 78 #[.string s, .int .i64 most] w fun e w' => e = .returned (outText (readText s.data.toList most)) ∧ Below w.heap.size w w' := by
  cases hv : readVar s.data.toList with
  | none =>
    have hx := ReadVar_none s w hs hv
    replace hx := Lib.hid hx
    have hr : readText s.data.toList most = none := by unfold readText; rw [hv]
    replace hr := Lib.hid hr
    replace hv := Lib.hid hv
    unfold maxLen at hs
    go_enter Tryd.func78, Tryd.ntmps78
    go_wp2_with fail
    refine hx.out.mono ?_
    rintro e w1 ⟨rfl, hb⟩
    go_wp2_with fail
    go_ret3
    exact ⟨by rw [hr.out]; rfl, hb⟩
  | some q =>
    obtain ⟨n, k⟩ := q
    have hx := ReadVar_some s n k w hs hv
    replace hx := Lib.hid hx
    obtain ⟨k1, k2, k3⟩ := readVar_le hv
    rw [dlen] at k2
    have hn : (n : Int) ≤ 18446744073709551615 := by omega
    clear k3
    unfold maxLen at hs
    by_cases hbad : most < 0 ∨ most < n ∨ s.size - k < n
    · have hr : readText s.data.toList most = none := by unfold readText; rw [hv]; simp only [dlen]; rw [if_pos hbad]
      replace hr := Lib.hid hr
      replace hv := Lib.hid hv
      go_enter Tryd.func78, Tryd.ntmps78
      go_wp2_with fail
      refine hx.out.mono ?_
      rintro e w1 ⟨rfl, hb⟩
      go_wp2_with fail
      all_goals go_ret3
      all_goals exact ⟨by rw [hr.out]; rfl, hb⟩
    · have hr : readText s.data.toList most = some ((s.data.toList.drop k).take n, k + n) := by unfold readText; rw [hv]; simp only [dlen]; rw [if_neg hbad]
      replace hr := Lib.hid hr
      replace hv := Lib.hid hv
      have g1 : 0 ≤ most := by omega
      have g2 : (n : Int) ≤ most := by omega
      have g3 : k + n ≤ s.size := by omega
      clear hbad
      go_enter Tryd.func78, Tryd.ntmps78
      go_wp2_with fail
      refine hx.out.mono ?_
      rintro e w1 ⟨rfl, hb⟩
      go_wp2_with fail
      go_ret3
      refine ⟨?_, hb⟩
      rw [hr.out, ext_bs, show k + n - k = n from by omega]
      simp [outText]
end Go.Proofs.YtfnlponoakhegaaDoor
namespace Go.Proofs.YtfnlponoakhegaaDoor
open Go.RowKit
set_option linter.unusedVariables false
set_option linter.unusedSimpArgs false
theorem bitLen_le {n k : Nat} (h : n < 2 ^ k) : Lib.bitLen n ≤ k := by
  have : ∀ f x k, x < 2 ^ k → Lib.bitLenAux f x ≤ k := by
    intro f
    induction f with
    | zero => intro x k _; simp [Lib.bitLenAux]
    | succ f ih =>
      intro x k hx
      unfold Lib.bitLenAux
      split
      · omega
      · cases k with
        | zero => simp at hx; omega
        | succ k =>
          have := ih (x / 2) k (by rw [Nat.pow_succ] at hx; omega)
          omega
  exact this 64 n k h
set_option maxRecDepth 100000 in
set_option maxHeartbeats 1000000 in
theorem Big_any (n width : Nat) (w : World) (hw0 : 1 ≤ width) (hw : width ≤ 8) (hn : n < 256 ^ width) :
    Calls Tryd.prog 42 #[.int .u64 (n : Nat), .int .i64 (width : Nat)] w fun e w' => e = .returned (.tuple #[.string (bs (bigL n width)), .int .i64 0]) ∧ Below w.heap.size w w' := by
  have h256 : 256 ^ width ≤ 256 ^ 8 := Nat.pow_le_pow_right (by omega) hw
  have hn64 : n ≤ 18446744073709551615 := by
    have : (256 : Nat) ^ 8 = 18446744073709551616 := by decide
    omega
  have hbl : Lib.bitLen n ≤ 8 * width := bitLen_le (by
    rw [Nat.pow_mul]
    exact hn)
  have hn64' : (n : Int) ≤ 18446744073709551615 := by omega
  have hlen := Tryd.bits_Len64 (n : Int) w (by omega) hn64'
  have hput := put_any w.heap.size (.slice none 0 0) [] (n : Int) width w (by omega) hn64' hw (OwnB.nil _ _) (Nat.le_refl _) (by simp)
  simp only [Int.toNat_natCast] at hlen hput
  have hbl' : ¬ ((8 : Int) * width < (Lib.bitLen n : Nat)) := by omega
  replace hlen := Lib.hid hlen
  replace hput := Lib.hid hput
  generalize hbn : Lib.bitLen n = bn at *
  clear h256 hn64 hn64' hbl hn hbn
  go_enter Tryd.func42, Tryd.ntmps42
  go_wp2_with fail
  refine hlen.out.mono ?_
  rintro e w' ⟨rfl, rfl⟩
  go_wp2_with fail
  refine hput.out.mono ?_
  rintro e w2 ⟨v', rfl, ho, hg⟩
  have ht := ho.text
  have hb := hg.below (B := w'.heap.size) (Nat.le_refl _) (fun k e => by cases e)
  replace hb := Lib.hid hb
  clear hg ho
  go_wp2_with fail
  go_ret2
  exact ⟨by simp [bs], hb.out⟩
/-- A number's four bytes; none if it is too great. -/
def bigX (n : Nat) : List UInt8 := if n < 4294967296 then bigL n 4 else []
theorem bigX_of {n : Nat} (h : n < 4294967296) : bigX n = bigL n 4 := if_pos h
theorem bigX_le (n : Nat) : (bigX n).length ≤ 4 := by
  unfold bigX
  split
  · rw [bigL_len]; exact Nat.le_refl _
  · simp
set_option maxRecDepth 100000 in
set_option maxHeartbeats 1000000 in
theorem Big_over (n : Nat) (w : World) (h0 : 4294967296 ≤ n) (hn : n < 18446744073709551616) :
    Calls Tryd.prog 42 #[.int .u64 (n : Nat), .int .i64 4] w fun e w' => e = .returned (.tuple #[.string ⟨#[]⟩, .int .i64 3]) ∧ Below w.heap.size w w' := by
  have hbl : 32 < Lib.bitLen n := by
    obtain ⟨a, b, c⟩ := bitLenAux_spec 64 n (by omega) hn
    have e : Lib.bitLen n = Lib.bitLenAux 64 n := rfl
    rw [e]
    rcases Nat.lt_or_ge 32 (Lib.bitLenAux 64 n) with h | h
    · exact h
    · have := Nat.pow_le_pow_right (n := 2) (by omega) h
      have : (2 : Nat) ^ 32 = 4294967296 := by decide
      omega
  have hlen := Tryd.bits_Len64 (n : Int) w (by omega) (by omega)
  simp only [Int.toNat_natCast] at hlen
  have hbl' : ((32 : Int) < (Lib.bitLen n : Nat)) := by omega
  replace hlen := Lib.hid hlen
  generalize Lib.bitLen n = bn at *
  clear hbl h0
  have hn' : (n : Int) < 18446744073709551616 := by omega
  clear hn
  go_enter Tryd.func42, Tryd.ntmps42
  go_wp2_with fail
  refine hlen.out.mono ?_
  rintro e w' ⟨rfl, rfl⟩
  go_wp2_with fail
  go_ret2
  exact ⟨rfl, Below.refl _ _⟩
def bigE (n : Nat) : Nat := if n < 4294967296 then 0 else 3
theorem Big_x (n : Nat) (w : World) (hn : n < 18446744073709551616) :
    Calls Tryd.prog 42 #[.int .u64 (n : Nat), .int .i64 4] w fun e w' => e = .returned (.tuple #[.string (bs (bigX n)), .int .i64 (bigE n : Nat)]) ∧ Below w.heap.size w w' := by
  by_cases h : n < 4294967296
  · have := Big_any n 4 w (by decide) (by decide) h
    unfold bigX bigE
    rw [if_pos h, if_pos h]
    exact this
  · have := Big_over n w (by omega) hn
    unfold bigX bigE
    rw [if_neg h, if_neg h]
    exact this
end Go.Proofs.YtfnlponoakhegaaDoor
namespace Go.Proofs.YtfnlponoakhegaaDoor
open Go.RowKit
set_option linter.unusedVariables false
set_option linter.unusedSimpArgs false

theorem sizeB : ∃ j, Tryd.prog.info? 88 = some j ∧ j.size = 2 := by
  obtain ⟨j, hj, hs⟩ := Option.map_eq_some_iff.1 (show (Tryd.prog.info? 88).map (·.size) = some 2 by kernel_rfl)
  exact ⟨j, hj, hs⟩

set_option maxHeartbeats 1000000 in
set_option maxRecDepth 100000 in
theorem copyCheck_used (b : Nat) (w : World) (h0 : w.cell? ⟨b, 0, none⟩ = some (.pointer (some ⟨b, 0, none⟩))) :
    Calls Tryd.prog 64 #[.pointer (some ⟨b, 0, none⟩)] w fun e w' => e = .returned (.tuple #[]) ∧ w' = w := by
  obtain ⟨j, hj, _⟩ := sizeB
  go_enter Tryd.func64, Tryd.ntmps64
  go_wp2
  rw [Lib.run_neq_ptr_same w _ Tryd.underlying86 hj]
  go_wp2
  go_end0
  exact ⟨rfl, rfl⟩

set_option maxHeartbeats 1000000 in
set_option maxRecDepth 100000 in
theorem copyCheck_fresh (b : Nat) (w : World) (h0 : w.cell? ⟨b, 0, none⟩ = some (.pointer none)) (hsh : w.shape? b = some (88, 2)) (hfz : w.frozen? ⟨b, 0, none⟩ = false) :
    Calls Tryd.prog 64 #[.pointer (some ⟨b, 0, none⟩)] w fun e w' => e = .returned (.tuple #[]) ∧ w' = w.setCell ⟨b, 0, none⟩ (.pointer (some ⟨b, 0, none⟩)) := by
  obtain ⟨j, hj, hjs⟩ := sizeB
  go_enter Tryd.func64, Tryd.ntmps64
  go_wp2
  rw [Lib.run_to_unsafe w ⟨b, 0, none⟩ Tryd.underlying86 Tryd.underlying149 hj (by rw [hjs]; decide) hsh (Nat.zero_lt_succ 1)]
  simp only [Result.andThen]
  rw [Oper.upon_value]
  go_wp2
  rw [run_callFunc_extern Tryd.func82 (by kernel_rfl) (by kernel_rfl) (by kernel_rfl) (e := Extern.AbiNoEscape.same) (by kernel_rfl)]
  rw [Lib.run_noEscape]
  simp only [Result.andThen]
  rw [Oper.upon_value]
  go_wp2
  rw [Lib.run_from_unsafe w ⟨b, 0, none⟩ Tryd.underlying149 Tryd.underlying86 hj hsh (by kernel_rfl)]
  simp only [Result.andThen]
  rw [Oper.upon_value]
  go_wp2
  go_end0
  exact ⟨rfl, rfl⟩

theorem copyCheck_any (B b : Nat) (bs : List Value) (w : World) (h : Lib.IsBuilder 88 5 B b bs w) :
    Calls Tryd.prog 64 #[.pointer (some ⟨b, 0, none⟩)] w fun e w' => e = .returned (.tuple #[]) ∧ (Lib.BuilderAt 88 5 B b (.pointer (some ⟨b, 0, none⟩)) bs w' ∧ Below B w w') := by
  rcases h with h | h
  · refine (copyCheck_fresh b w h.cell0 h.shape h.frozen0).mono ?_
    rintro e w' ⟨rfl, rfl⟩
    exact ⟨rfl, h.used _, (Below.refl B w).setCell (p := ⟨b, 0, none⟩) h.1 _⟩
  · refine (copyCheck_used b w h.cell0).mono ?_
    rintro e w' ⟨rfl, rfl⟩
    exact ⟨rfl, h, Below.refl B _⟩

set_option maxHeartbeats 2000000 in
set_option maxRecDepth 100000 in
theorem WriteString_any (B b : Nat) (bs : List Value) (s : ByteArray) (w : World) (h : Lib.IsBuilder 88 5 B b bs w) (hlen : bs.length + s.size ≤ 140737488355328) (hBw : B ≤ w.heap.size) :
    Calls Tryd.prog 39 #[.pointer (some ⟨b, 0, none⟩), .string s] w fun e w' => e = .returned (.tuple #[.int .i64 s.size, .nilIface]) ∧ (Lib.BuilderAt 88 5 B b (.pointer (some ⟨b, 0, none⟩)) (bs ++ Lib.strCells s) w' ∧ Below B w w') := by
  obtain ⟨i0, hi, hz0, hz1, hz2⟩ := info_parts u8_info
  go_enter Tryd.func39, Tryd.ntmps39
  go_wp2_with (go_at_call 64; refine (copyCheck_any B b bs _ h).mono ?_)
  rintro e w1 ⟨rfl, h1, hb1⟩
  obtain ⟨hB, v, hbk, hown, hne⟩ := h1
  have c0 : w1.cell? ⟨b, 0, none⟩ = some (.pointer (some ⟨b, 0, none⟩)) := by rw [Lib.cell_of_heap hbk]; rfl
  have c1 : w1.cell? ⟨b, 1, none⟩ = some v := by rw [Lib.cell_of_heap hbk]; rfl
  go_wp2_with (at_builtin; refine Lib.wpList_append_own_string _ rfl _ _ 34 9 rfl B 5 i0 Tryd.underlying34 Tryd.underlying9 hi hz0 hz1 hz2 _ _ _ rfl hown s rfl ?c3 ?c4 ?c5 ?_)
  case c3 => unfold maxLen; omega
  case c4 => omega
  case c5 => have := hb1.size; omega
  intro v' w2 hown' hgrow _
  have hlt : b < w1.heap.size := by
    rcases Nat.lt_or_ge b w1.heap.size with h' | h'
    · exact h'
    · simp [Array.getElem?_eq_none h'] at hbk
  have hb2 : w2.heap[b]? = some (.cells #[.pointer (some ⟨b, 0, none⟩), v] 88 (0, 0)) := by
    rw [hgrow.block b hlt (fun e => hne e.symm)]
    exact hbk
  have d0 : w2.cell? ⟨b, 0, none⟩ = some (.pointer (some ⟨b, 0, none⟩)) := by rw [Lib.cell_of_heap hb2]; rfl
  have d1 : w2.cell? ⟨b, 1, none⟩ = some v := by rw [Lib.cell_of_heap hb2]; rfl
  have f1 : w2.frozen? ⟨b, 1, none⟩ = false := Lib.frozen_of_heap hb2 1
  obtain ⟨ao, n', cap, rfl⟩ : ∃ ao n' cap, v' = .slice ao n' cap := by
    rcases hown'.2 with ⟨hv, _⟩ | ⟨g, cap, cur, hv, _⟩
    · exact ⟨_, _, _, hv⟩
    · exact ⟨_, _, _, hv⟩
  go_wp2
  go_ret2
  refine ⟨rfl, ?_, ?_⟩
  · exact Lib.BuilderAt.put (T := 88) (e := 5) hB hb2 (bs' := bs ++ Lib.strCells s) (by simpa [Lib.strCells_length] using hown') (by decide)
  · exact (hb1.grown hgrow (by have := hb1.size; omega) (fun k hk => (hown.lt k hk).1)).setCell (p := ⟨b, 1, none⟩) hB _
end Go.Proofs.YtfnlponoakhegaaDoor
namespace Go.Proofs.YtfnlponoakhegaaDoor
open Go.RowKit
set_option linter.unusedVariables false
set_option linter.unusedSimpArgs false

theorem own_below {w w' : World} {B : Nat} {e : TypeId} {v : Value} {n : Nat} {xs : List Value} (h : w.ownsRow B e 1 v n xs) (hb : Below w.heap.size w w') : w'.ownsRow B e 1 v n xs := by
  refine ⟨h.1, h.2.imp id ?_⟩
  rintro ⟨g, cap, cur, hv, h1, hg, rest⟩
  refine ⟨g, cap, cur, hv, h1, ?_, rest⟩
  rw [hb.block g (by
    rcases Nat.lt_or_ge g w.heap.size with h' | h'
    · exact h'
    · rw [Array.getElem?_eq_none h'] at hg; cases hg)]
  exact hg
def IsB (B b : Nat) (l : List UInt8) (w : World) : Prop := Lib.IsBuilder 88 5 B b (Lib.byteCells l) w
theorem at_below {w w' : World} {B b : Nat} {p : Value} {xs : List Value} (h : Lib.BuilderAt 88 5 B b p xs w) (hb : Below w.heap.size w w') : Lib.BuilderAt 88 5 B b p xs w' := by
  have hlt := h.lt
  obtain ⟨hB, v, hbk, hown, hne⟩ := h
  exact ⟨hB, v, (hb.block b hlt).trans hbk, own_below hown hb, hne⟩
theorem IsB.below {w w' : World} {B b : Nat} {l : List UInt8} (h : IsB B b l w) (hb : Below w.heap.size w w') : IsB B b l w' := h.imp (fun h => at_below h hb) (fun h => at_below h hb)
theorem IsB.new (w : World) : IsB w.heap.size w.heap.size [] (w.alloc (.cells #[.pointer none, .slice none 0 0] 88)) :=
  .inl ⟨Nat.le_refl _, _, heap_alloc_new w _, World.ownsRow_nil _ _ _ 1, by simp [Value.ownBlock]⟩
theorem IsB.drew {w : World} {B b : Nat} {l : List UInt8} (h : IsB B b l w) : IsB B b l w.drew := h.below ((Below.refl _ _).drew)
theorem IsB.lt {w : World} {B b : Nat} {l : List UInt8} (h : IsB B b l w) : b < w.heap.size := h.elim (·.lt) (·.lt)
theorem write_any (B b : Nat) (l : List UInt8) (s : ByteArray) (w : World) (h : IsB B b l w) (hlen : l.length + s.size ≤ 140737488355328) (hBw : B ≤ w.heap.size) :
    Calls Tryd.prog 39 #[.pointer (some ⟨b, 0, none⟩), .string s] w fun e w' => e = .returned (.tuple #[.int .i64 s.size, .nilIface]) ∧ (IsB B b (l ++ s.data.toList) w' ∧ Below B w w') := by
  refine (WriteString_any B b _ s w h (by rw [Lib.byteCells_length]; exact hlen) hBw).mono ?_
  rintro e w' ⟨he, h1, hb⟩
  refine ⟨he, .inr ?_, hb⟩
  rw [Lib.byteCells_append]
  exact h1

/-- Var of one number, whose slice was just made. -/
theorem Var_one (b : Nat) (n : Int) (w : World) (hb : b < w.heap.size) (hc : w.cell? ⟨b, 0, none⟩ = some (.int .u64 n)) (h0 : 0 ≤ n) (h1 : n ≤ 18446744073709551615) :
    Calls Tryd.prog 52 #[.slice (some ⟨b, 0, none⟩) 1 1] w fun e w' => e = .returned (.string (bs (varL1 n.toNat))) ∧ Below w.heap.size w w' := by
  have h := Var_any (some ⟨b, 0, none⟩) [n] 1 w ⟨rfl, fun _ => ⟨_, rfl, hb, fun j u hu => by
    cases j with
    | zero =>
      simp at hu
      subst hu
      exact hc
    | succ j => simp at hu⟩⟩ (fun m hm => by simp at hm; subst hm; exact ⟨h0, h1⟩) (by simp)
  simpa [varL_one, bs] using h

def keyL : List Nat → List UInt8
  | [] => []
  | n :: ns => 1 :: varL1 n ++ keyL ns
theorem keyL_snoc (a : List Nat) (n : Nat) : keyL (a ++ [n]) = keyL a ++ (1 :: varL1 n) := by
  induction a with
  | nil => simp [keyL]
  | cons x a ih => simp [keyL, ih]
theorem keyL_len : ∀ a : List Nat, (keyL a).length ≤ 10 * a.length
  | [] => by simp [keyL]
  | n :: a => by have := varL1_len n; have := keyL_len a; simp [keyL]; omega
def partsV (ns : List Int) : List Value := ns.flatMap fun n => [.bool false, .string ⟨#[]⟩, .int .u64 n]
theorem partsV_at : ∀ (ns : List Int) (k : Nat) (n : Int), ns[k]? = some n → (partsV ns)[k * 3]? = some (.bool false) ∧ (partsV ns)[k * 3 + 1]? = some (.string ⟨#[]⟩) ∧ (partsV ns)[k * 3 + 2]? = some (.int .u64 n)
  | [], k, n, h => by simp at h
  | m :: ns, 0, n, h => by simp at h; subst h; simp [partsV]
  | m :: ns, k + 1, n, h => by
    have ih := partsV_at ns k n (by simpa using h)
    rw [show (k + 1) * 3 = k * 3 + 3 from by omega]
    simpa [partsV] using ih

theorem add_pos (a : Addr) (i : Nat) : a.add (i + 1) = ⟨a.block, a.off + (i + 1), none⟩ := by simp [Addr.add]

set_option maxRecDepth 100000 in
set_option maxHeartbeats 2000000 in
theorem Key_any (A : Option Addr) (ns : List Int) (cap : Nat) (w : World) (hr : Reads w w.heap.size 3 A ns.length (partsV ns)) (hns : ∀ n ∈ ns, U64 n) (hlen : ns.length ≤ 4294967296) :
    Calls Tryd.prog 43 #[.slice A ns.length cap] w fun e w' => e = .returned (.string (bs (keyL (ns.map Int.toNat)))) ∧ Below w.heap.size w w' := by
  go_enter Tryd.func43, Tryd.ntmps43
  go_wp2
  go_loopw [8] (fun i wr => ∃ (k : Nat), k ≤ ns.length ∧ i = .int .i64 k ∧ IsB w.heap.size w.heap.size (keyL ((ns.take k).map Int.toNat)) wr ∧ Below w.heap.size w wr) (fun i _ => ns.length - (intOf i).toNat)
  case atStart => exact ⟨0, Nat.zero_le _, rfl, IsB.new w, (Below.refl _ _).alloc (Nat.le_refl _) _⟩
  case round =>
    obtain ⟨k, hk, rfl, ho, hb0⟩ := hrel
    by_cases hlt : k < ns.length
    · obtain ⟨ad, rfl, hab, hcell⟩ := (hr.below hb0).2 (by omega)
      have hn := List.getElem?_eq_getElem hlt
      obtain ⟨q0, q1, q2⟩ := partsV_at ns k _ hn
      obtain ⟨n0, n1⟩ := hns _ (List.getElem_mem hlt)
      replace q0 := hcell _ _ q0
      replace q1 := hcell _ _ q1
      replace q2 := hcell _ _ q2
      rw [← add_of_add, add_pos] at q1 q2
      have hll := keyL_len ((ns.take k).map Int.toNat)
      rw [List.length_map, List.length_take] at hll
      have hsn : keyL ((ns.take (k + 1)).map Int.toNat) = keyL ((ns.take k).map Int.toNat) ++ (1 :: varL1 ns[k].toNat) := by
        rw [List.take_succ_eq_append_getElem hlt, List.map_append, List.map_cons, List.map_nil, keyL_snoc]
      replace hsn := Lib.hid hsn
      generalize ns[k] = n at *
      replace hn := Lib.hid hn
      generalize keyL ((ns.take k).map Int.toNat) = L at *
      have hz := hb0.size
      have hbl := ho.lt
      clear hcell
      go_wp2_with fail
      refine (Var_one _ n _ (by simp) (by simp [go_sem]) n0 n1).mono ?_
      rintro e w1 ⟨rfl, hb1⟩
      have ho1 : IsB w.heap.size w.heap.size L w1 := ho.below (((Below.refl _ _).alloc (Nat.le_refl _) _ |>.alloc (by simp) _).trans (hb1.mono (by simp; omega)))
      have hz1 := hb1.size
      simp at hz1
      have hvl := varL1_len n.toNat
      have q3 : 1 + (bs (varL1 n.toNat)).size ≤ 9223372036854775807 := by rw [bs_size]; omega
      go_wp2_with fail
      have q4 : (({ data := #[1] } : ByteArray) ++ bs (varL1 n.toNat)).size = 1 + (varL1 n.toNat).length := by rw [ByteArray.size_append, bs_size]; rfl
      refine (write_any w.heap.size w.heap.size L _ _ ho1 (by rw [q4]; omega) (by omega)).mono ?_
      rintro e w2 ⟨rfl, ho2, hb2⟩
      go_wp2_with fail
      refine ⟨⟨k + 1, by omega, by go_num, ?_, ?_⟩, by simp [intOf]; omega⟩
      · rw [hsn.out]
        simpa [bs] using ho2
      · exact ((((hb0.alloc (by omega) _).alloc (by simp; omega) _).trans (hb1.mono (by simp; omega))).trans hb2)
    · obtain rfl : k = ns.length := by omega
      go_wp2_with fail
      refine (Tryd.Builder_String_any w.heap.size w.heap.size _ _ ho hb0.size).mono ?_
      rintro e w1 ⟨rfl, hb1⟩
      go_wp2_with fail
      go_ret
      exact ⟨by simp [bs], hb0.trans hb1⟩
end Go.Proofs.YtfnlponoakhegaaDoor
namespace Go.Proofs.YtfnlponoakhegaaDoor
open Go.RowKit
set_option linter.unusedVariables false
set_option linter.unusedSimpArgs false
def crcTab : List Nat := [0, 498536548, 997073096, 651767980, 1994146192, 1802195444, 1303535960, 1342533948, 3988292384, 4027552580, 3604390888, 3412177804, 2607071920, 2262029012, 2685067896, 3183342108]
def crcT (i : Nat) : Nat := crcTab.getD i 0
def crcNib (s : Nat) : Nat := s / 16 ^^^ crcT (s % 16)
def crcByte (s : Nat) (c : UInt8) : Nat := crcNib (crcNib (s ^^^ c.toNat))
def crcSum (l : List UInt8) : Nat := l.foldl crcByte 4294967295
def crcL (l : List UInt8) : Nat := 4294967295 ^^^ crcSum l
theorem crcT_lt (i : Nat) : crcT i < 4294967296 := by
  unfold crcT
  by_cases h : i < 16
  · have : ∀ j : Fin 16, crcTab.getD j.val 0 < 4294967296 := by decide
    exact this ⟨i, h⟩
  · rw [List.getD_eq_getElem?_getD, List.getElem?_eq_none (by simp [crcTab]; omega)]
    decide
theorem xor_lt {a b : Nat} (ha : a < 4294967296) (hb : b < 4294967296) : a ^^^ b < 4294967296 := Nat.xor_lt_two_pow (n := 32) ha hb
theorem crcNib_lt {s : Nat} (h : s < 4294967296) : crcNib s < 4294967296 := xor_lt (by omega) (crcT_lt _)
theorem crcByte_lt {s : Nat} (h : s < 4294967296) (c : UInt8) : crcByte s c < 4294967296 := crcNib_lt (crcNib_lt (xor_lt h (by have := c.toNat_lt; omega)))
theorem crcFold_lt (l : List UInt8) : ∀ {s : Nat}, s < 4294967296 → l.foldl crcByte s < 4294967296 := by
  induction l with
  | nil => exact fun h => h
  | cons c l ih => exact fun h => ih (crcByte_lt h c)
theorem crcL_lt (l : List UInt8) : crcL l < 4294967296 := xor_lt (by decide) (crcFold_lt l (by decide))
/-- The table that Crc reads is where it was laid. -/
def TabAt (w : World) : Prop := ∀ i, i < 16 → w.cell? ⟨0, i, none⟩ = some (.int .u32 (crcT i : Nat))
theorem cell_lt {w : World} {a : Addr} {v : Value} (h : w.cell? a = some v) : a.block < w.heap.size := by
  rcases Nat.lt_or_ge a.block w.heap.size with h' | h'
  · exact h'
  · unfold World.cell? at h
    rw [Array.getElem?_eq_none h'] at h
    cases h
theorem TabAt.pos {w : World} (h : TabAt w) : 0 < w.heap.size := cell_lt (h 0 (by decide))
theorem plain_cell {w : World} {a : Addr} {v : Value} (h : w.cell? (a.add 0) = some v) : ∃ b o, a = ⟨b, o, none⟩ := by
  obtain ⟨b, o, s⟩ := a
  cases s with
  | none => exact ⟨b, o, rfl⟩
  | some f =>
    exfalso
    unfold Addr.add World.cell? at h
    split at h <;> (try split at h) <;> simp_all
theorem TabAt.below {w w' : World} {B : Nat} (h : TabAt w) (hb : Below B w w') (hB : 0 < B) : TabAt w' := fun i hi => (hb.cell (p := ⟨0, i, none⟩) hB).trans (h i hi)
set_option maxRecDepth 100000 in
set_option maxHeartbeats 4000000 in
theorem Crc_any {w : World} (hT : TabAt w) (A : Option Addr) (ss : List ByteArray) (cap : Nat) (hr : Reads w w.heap.size 1 A ss.length (ss.map Value.string)) (hlen : ss.length ≤ 4294967296) (hs : ∀ s ∈ ss, s.size ≤ 1099511627776) :
    Calls Tryd.prog 30 #[.slice A ss.length cap] w fun e w' => e = .returned (.int .u32 (crcL (ss.flatMap fun s => s.data.toList) : Nat)) ∧ Below w.heap.size w w' := by
  have hT' := Lib.hid hT
  replace hr := Lib.hid hr
  replace hs := Lib.hid hs
  clear hT
  go_enter Tryd.func30, Tryd.ntmps30
  go_wp2_with fail
  go_loopw [3, 10] (fun sv iv wr => ∃ i : Nat, i ≤ ss.length ∧ iv = .int .i64 i ∧ sv = .int .u32 (crcSum ((ss.take i).flatMap fun s => s.data.toList) : Nat) ∧ Below w.heap.size w wr) (fun _ iv _ => ss.length - (intOf iv).toNat)
  case atStart => exact ⟨0, Nat.zero_le _, rfl, rfl, Below.refl _ _⟩
  case round =>
    obtain ⟨i, hi, rfl, rfl, hbr⟩ := hrel
    by_cases hlt : i < ss.length
    · have hlt' : (i : Int) < ss.length := by omega
      have hsi : ss[i]? = some ss[i] := List.getElem?_eq_getElem hlt
      have hsz := hs.out _ (List.getElem_mem hlt)
      obtain ⟨ad, u, rfl, hadB, hu, hcell⟩ := hr.out.at_ hlt
      rw [List.getElem?_map, hsi] at hu
      injection hu with hu
      subst hu
      generalize ss[i] = s at *
      obtain ⟨ad0, u0, e0, _, _, hc0⟩ := hr.out.at_ (k := 0) (by omega)
      injection e0 with e0
      subst e0
      obtain ⟨bb, oo, rfl⟩ := plain_cell hc0
      clear hc0
      have hc1 : w.cell? ⟨bb, oo + i, none⟩ = some (.string s) := by
        rw [show (⟨bb, oo + i, none⟩ : Addr) = (⟨bb, oo, none⟩ : Addr).add i from by cases i <;> simp [Addr.add]]
        exact hcell
      have q0 := (hbr.cell (p := ⟨bb, oo + i, none⟩) hadB).trans hc1
      have hzr := hbr.size
      have hbl : bb < wr.heap.size := by have : bb < w.heap.size := hadB; omega
      obtain ⟨c2, W2, hrun, hbW, hzW, hcells⟩ := conv_bytes wr s
      have htk : (ss.take (i + 1)).flatMap (fun s => s.data.toList) = (ss.take i).flatMap (fun s => s.data.toList) ++ s.data.toList := by
        rw [List.take_add_one, hsi, List.flatMap_append]
        simp
      have hs1 : crcSum ((ss.take (i + 1)).flatMap fun s => s.data.toList) = s.data.toList.foldl crcByte (crcSum ((ss.take i).flatMap fun s => s.data.toList)) := by
        rw [htk]
        unfold crcSum
        rw [List.foldl_append]
      have hS0 : crcSum ((ss.take i).flatMap fun s => s.data.toList) < 4294967296 := crcFold_lt _ (by decide)
      have hbW2 := hbr.trans (hbW.mono hzr)
      have hTW := hT'.out.below hbW2 hT'.out.pos
      generalize crcSum ((ss.take i).flatMap fun s => s.data.toList) = S0 at *
      replace hs1 := Lib.hid hs1
      replace htk := Lib.hid htk
      replace hbr := Lib.hid hbr
      replace hbW := Lib.hid hbW
      replace hbW2 := Lib.hid hbW2
      replace hTW := Lib.hid hTW
      replace hcells := Lib.hid hcells
      replace hsi := Lib.hid hsi
      clear hcell hc1
      go_wp2_with fail
      go_loopw [3, 17] (fun sv jv wq => ∃ j : Nat, j ≤ s.size ∧ jv = .int .i64 j ∧ sv = .int .u32 ((s.data.toList.take j).foldl crcByte S0 : Nat) ∧ W2 = wq) (fun _ jv _ => s.size - (intOf jv).toNat)
      case atStart => exact ⟨0, Nat.zero_le _, rfl, rfl, rfl⟩
      case round =>
        obtain ⟨j, hj, rfl, rfl, rfl⟩ := hrel
        by_cases hjl : j < s.size
        · have hjl' : (j : Int) < s.size := by omega
          have hx := hcells.out j hjl
          have hjd : j < s.data.toList.length := by rw [dlen]; exact hjl
          rw [List.getD_eq_getElem?_getD, List.getElem?_eq_getElem hjd] at hx
          have hsn : (s.data.toList.take (j + 1)).foldl crcByte S0 = crcByte ((s.data.toList.take j).foldl crcByte S0) s.data.toList[j] := by
            rw [List.take_succ_eq_append_getElem hjd, List.foldl_append]
            rfl
          have hlt2 := crcFold_lt (s.data.toList.take j) hS0
          generalize (s.data.toList.take j).foldl crcByte S0 = x0 at *
          generalize s.data.toList[j] = c at *
          unfold B8 at hx
          simp only [Option.getD_some] at hx
          have hcl := c.toNat_lt
          have k1 : bits .xor .u32 (x0 : Int) (c.toNat : Nat) = ((x0 ^^^ c.toNat : Nat) : Int) := u32_xor_nat _ _ hlt2 (by omega)
          have hx1 := xor_lt hlt2 (show c.toNat < 4294967296 by omega)
          rw [show crcByte x0 c = crcNib (crcNib (x0 ^^^ c.toNat)) from rfl] at hsn
          generalize x0 ^^^ c.toNat = x1 at *
          have k2 : bits .and .u32 (x1 : Int) 15 = ((x1 % 16 : Nat) : Int) := by
            have := u32_and_nat x1 15 hx1 (by decide)
            rw [show x1 &&& 15 = x1 % 16 from Nat.and_two_pow_sub_one_eq_mod x1 4] at this
            exact this
          have hm1 : x1 % 16 < 16 := Nat.mod_lt _ (by decide)
          have t1 := hTW.out (x1 % 16) hm1
          have k3 : bits .xor .u32 ((x1 : Int) / 16) (crcT (x1 % 16) : Nat) = ((crcNib x1 : Nat) : Int) := by
            have := u32_xor_nat (x1 / 16) (crcT (x1 % 16)) (by omega) (crcT_lt _)
            rw [show ((x1 / 16 : Nat) : Int) = (x1 : Int) / 16 from by omega] at this
            exact this
          have hx2 := crcNib_lt hx1
          generalize crcT (x1 % 16) = tt1 at *
          generalize x1 % 16 = i1 at *
          generalize crcNib x1 = x2 at *
          have k4 : bits .and .u32 (x2 : Int) 15 = ((x2 % 16 : Nat) : Int) := by
            have := u32_and_nat x2 15 hx2 (by decide)
            rw [show x2 &&& 15 = x2 % 16 from Nat.and_two_pow_sub_one_eq_mod x2 4] at this
            exact this
          have hm2 : x2 % 16 < 16 := Nat.mod_lt _ (by decide)
          have t2 := hTW.out (x2 % 16) hm2
          have k5 : bits .xor .u32 ((x2 : Int) / 16) (crcT (x2 % 16) : Nat) = ((crcNib x2 : Nat) : Int) := by
            have := u32_xor_nat (x2 / 16) (crcT (x2 % 16)) (by omega) (crcT_lt _)
            rw [show ((x2 / 16 : Nat) : Int) = (x2 : Int) / 16 from by omega] at this
            exact this
          generalize crcT (x2 % 16) = tt2 at *
          generalize x2 % 16 = i2 at *
          generalize crcNib x2 = x3 at *
          replace hsn := Lib.hid hsn
          go_wp2_with fail
          exact ⟨⟨j + 1, by omega, by rfl, by rw [hsn.out], trivial⟩, by first | omega | (simp only [intOf]; omega)⟩
        · obtain rfl : j = s.size := by omega
          have hjl' : ¬ (s.size : Int) < s.size := by omega
          rw [List.take_of_length_le (by rw [dlen]; exact Nat.le_refl _)]
          go_wp2_with fail
          refine ⟨⟨i + 1, by omega, by rfl, ?_, hbW2.out⟩, by first | omega | (simp only [intOf]; omega)⟩
          rw [hs1.out]
    · obtain rfl : i = ss.length := by omega
      have hlt' : ¬ (ss.length : Int) < ss.length := by omega
      rw [List.take_length]
      replace hbr := Lib.hid hbr
      have hcl : bits .xor .u32 (IntKind.u32.max : Int) ((crcSum (ss.flatMap fun s => s.data.toList) : Nat) : Int) = (crcL (ss.flatMap fun s => s.data.toList) : Nat) := u32_xor_nat 4294967295 _ (by decide) (crcFold_lt _ (by decide))
      go_wp2_with fail
      go_ret
      exact ⟨rfl, hbr.out⟩
end Go.Proofs.YtfnlponoakhegaaDoor
namespace Go.Proofs.YtfnlponoakhegaaDoor
open Go.RowKit
set_option linter.unusedVariables false
set_option linter.unusedSimpArgs false
/-- The globals that this package's code reads. -/
structure Gl (w : World) : Prop where
  tab : TabAt w
  mx : ∃ m, w.cell? ⟨1, 0, none⟩ = some (.int .i64 m)
theorem Gl.lt {w : World} (h : Gl w) : 1 < w.heap.size := by
  obtain ⟨m, hm⟩ := h.mx
  exact cell_lt hm
theorem Gl.below {w w' : World} {B : Nat} (h : Gl w) (hb : Below B w w') (hB : 1 < B) : Gl w' :=
  ⟨h.tab.below hb (by omega), h.mx.imp fun m hm => (hb.cell (p := ⟨1, 0, none⟩) hB).trans hm⟩
theorem Gl.kept {w w' : World} {S : Nat → Prop} (h : Gl w) (hk : KeptBut w w' S) (h0 : ¬ S 0) (h1 : ¬ S 1) : Gl w' :=
  ⟨fun i hi => (hk.cell ⟨0, i, none⟩ (by have := h.lt; show 0 < w.heap.size; omega) h0).trans (h.tab i hi), h.mx.imp fun m hm => (hk.cell ⟨1, 0, none⟩ h.lt h1).trans hm⟩
def partV (b : Bool) (s : ByteArray) (n : Nat) : Value := .agg #[.bool b, .string s, .int .u64 (n : Nat)]
set_option maxRecDepth 100000 in
set_option maxHeartbeats 4000000 in
theorem Str_any (s : ByteArray) (w : World) :
    Calls Tryd.prog 44 #[.string s] w fun e w' => e = .returned (partV true s 0) ∧ Below w.heap.size w w' := by
  go_enter Tryd.func44, Tryd.ntmps44
  go_wp2_with fail
  exact bodyPost_ret (v := partV true s 0) (results_cell_row rfl _ _ w.heap.size 97 #[.bool true, .string s, .int .u64 0] (0, 0) _ rfl (heap_alloc_new w _) Tryd.underlying97 rfl (by kernel_rfl)) rfl ⟨rfl, (Below.refl _ _).alloc (Nat.le_refl _) _⟩
set_option maxRecDepth 100000 in
set_option maxHeartbeats 4000000 in
theorem Num_any (n : Nat) (w : World) (hn : n < 18446744073709551616) :
    Calls Tryd.prog 80 #[.int .u64 (n : Nat)] w fun e w' => e = .returned (partV false ⟨#[]⟩ n) ∧ Below w.heap.size w w' := by
  go_enter Tryd.func80, Tryd.ntmps80
  go_wp2_with fail
  exact bodyPost_ret (v := partV false ⟨#[]⟩ n) (results_cell_row rfl _ _ w.heap.size 97 #[.bool false, .string ⟨#[]⟩, .int .u64 (n : Nat)] (0, 0) _ rfl (heap_alloc_new w _) Tryd.underlying97 rfl (by kernel_rfl)) rfl ⟨rfl, (Below.refl _ _).alloc (Nat.le_refl _) _⟩
theorem repl_data (s : ByteArray) : (⟨(Lib.replaceAll s.data.toList (⟨#[0]⟩ : ByteArray).data.toList (⟨#[0, 255]⟩ : ByteArray).data.toList).toArray⟩ : ByteArray) = bs (escL s.data.toList) := by
  rw [show (⟨#[0]⟩ : ByteArray).data.toList = [0] from rfl, show (⟨#[0, 255]⟩ : ByteArray).data.toList = [0, 255] from rfl, repl_esc]
  rfl
set_option maxRecDepth 100000 in
set_option maxHeartbeats 4000000 in
theorem KeyS_any (b : Nat) (s : ByteArray) (w : World) (hG : Gl w) (hc0 : w.cell? ⟨b, 0, none⟩ = some (.bool true)) (hc1 : w.cell? ⟨b, 1, none⟩ = some (.string s)) (hc2 : w.cell? ⟨b, 2, none⟩ = some (.int .u64 0)) (hs : s.size ≤ 1073741824) :
    Calls Tryd.prog 43 #[.slice (some ⟨b, 0, none⟩) 1 1] w fun e w' => e = .returned (.string (bs (strKey s.data.toList))) ∧ Below w.heap.size w w' := by
  have hbl := cell_lt hc0
  obtain ⟨mx, hmx⟩ := hG.mx
  have h1l := cell_lt hmx
  have hec := escL_len s.data.toList
  rw [dlen] at hec
  have hcnt : Lib.count s.data.toList [0] ≤ s.size := by have := (esc_repl s.data.toList).2; rwa [dlen] at this
  go_enter Tryd.func43, Tryd.ntmps43
  go_wp2_with fail
  go_loopw [8] (fun i wr => (i = .int .i64 0 ∧ IsB w.heap.size w.heap.size [] wr ∨ i = .int .i64 1 ∧ IsB w.heap.size w.heap.size (strKey s.data.toList) wr) ∧ Below w.heap.size w wr) (fun i _ => (1 - intOf i).toNat)
  case atStart => exact ⟨.inl ⟨rfl, IsB.new w⟩, (Below.refl _ _).alloc (Nat.le_refl _) _⟩
  case round =>
    obtain ⟨⟨rfl, ho⟩ | ⟨rfl, ho⟩, hbr⟩ := hrel
    · have q0 := (hbr.cell (p := ⟨b, 0, none⟩) hbl).trans hc0
      have q1 := (hbr.cell (p := ⟨b, 1, none⟩) hbl).trans hc1
      have q2 := (hbr.cell (p := ⟨b, 2, none⟩) hbl).trans hc2
      have hmr := (hbr.cell (p := ⟨1, 0, none⟩) h1l).trans hmx
      have hzr := hbr.size
      have hob := ho.lt
      go_wp2_with fail
      have hm2 : (wr.alloc (.cells #[.bool true, .string s, .int .u64 0] 97)).cell? ⟨1, 0, none⟩ = some (.int .i64 mx) := by
        rw [World.cell?_alloc_lt wr _ ⟨1, 0, none⟩ (by show 1 < wr.heap.size; omega)]
        exact hmr
      refine (Tryd.strings_ReplaceAll s ⟨#[0]⟩ ⟨#[0, 255]⟩ mx _ (by omega) hm2 (by decide) (by show s.size + Lib.count s.data.toList [0] * 2 ≤ _; omega)).mono ?_
      rintro e w1 ⟨rfl, hb1⟩
      rw [repl_data]
      have hbw1 : Below w.heap.size w w1 := (hbr.alloc (by omega) _).trans (hb1.mono (by rw [World.size_alloc]; omega))
      have ho1 : IsB w.heap.size w.heap.size [] w1 := ho.below (((Below.refl _ _).alloc (Nat.le_refl _) _).trans (hb1.mono (by rw [World.size_alloc]; omega)))
      have hes := bs_size (escL s.data.toList)
      have k1 : 1 + (bs (escL s.data.toList)).size ≤ 9223372036854775807 := by omega
      have k2 : 1 + (bs (escL s.data.toList)).size + 2 ≤ 9223372036854775807 := by omega
      have hsz : (((⟨#[2]⟩ : ByteArray) ++ bs (escL s.data.toList)) ++ ⟨#[0, 1]⟩).size = 1 + (escL s.data.toList).length + 2 := by rw [ByteArray.size_append, ByteArray.size_append, hes]; rfl
      have hda : (((⟨#[2]⟩ : ByteArray) ++ bs (escL s.data.toList)) ++ ⟨#[0, 1]⟩).data.toList = strKey s.data.toList := by simp [strKey, bs]
      replace hda := Lib.hid hda
      go_wp2_with fail
      refine (write_any w.heap.size w.heap.size [] _ _ ho1 (by rw [hsz]; show 0 + _ ≤ _; omega) hbw1.size).mono ?_
      rintro e w2 ⟨rfl, ho2, hb2⟩
      rw [hda.out] at ho2
      go_wp2_with fail
      exact ⟨⟨.inr ⟨by rfl, ho2⟩, hbw1.trans hb2⟩, by decide⟩
    · go_wp2_with fail
      refine (Tryd.Builder_String_any w.heap.size w.heap.size _ _ ho hbr.size).mono ?_
      rintro e w1 ⟨rfl, hb1⟩
      go_wp2_with fail
      go_ret
      exact ⟨rfl, hbr.trans hb1⟩
end Go.Proofs.YtfnlponoakhegaaDoor
namespace Go.Proofs.YtfnlponoakhegaaDoor
open Go.RowKit
set_option linter.unusedVariables false
set_option linter.unusedSimpArgs false
theorem indexByte_cases : ∀ l : L, (Lib.indexByte l 0 = -1 ∧ ∀ c ∈ l, c ≠ 0) ∨ ∃ p r, l = p ++ 0 :: r ∧ (∀ c ∈ p, c ≠ 0) ∧ Lib.indexByte l 0 = (p.length : Nat)
  | [] => .inl ⟨rfl, fun c hc => by cases hc⟩
  | b :: l => by
    by_cases hb : b = 0
    · subst hb
      exact .inr ⟨[], l, rfl, (fun c hc => by cases hc), by simp [Lib.indexByte]⟩
    · have hbb : (b == 0) = false := by simpa using hb
      rcases indexByte_cases l with ⟨h1, h2⟩ | ⟨p, r, h1, h2, h3⟩
      · refine .inl ⟨by simp [Lib.indexByte, hbb, h1], fun c hc => ?_⟩
        rcases List.mem_cons.1 hc with rfl | hc
        · exact hb
        · exact h2 c hc
      · refine .inr ⟨b :: p, r, by rw [h1]; rfl, fun c hc => ?_, ?_⟩
        · rcases List.mem_cons.1 hc with rfl | hc
          · exact hb
          · exact h2 c hc
        · have : ¬ (((p.length : Nat) : Int) = -1) := by omega
          simp [Lib.indexByte, hbb, h3, this]
def rtV (o : Option (L × L)) : Value := match o with
  | none => .tuple #[.string ⟨#[]⟩, .string ⟨#[]⟩, .bool false]
  | some (t, r) => .tuple #[.string (bs t), .string (bs r), .bool true]
def strLen : Value → Nat
  | .string b => b.size
  | _ => 0
theorem bs_ext (l : L) (a b : Nat) : (bs l).extract a b = bs ((l.drop a).take (b - a)) := by rw [ext_bs, bs_data]
set_option maxRecDepth 100000 in
set_option maxHeartbeats 4000000 in
theorem readTextK_any (s : ByteArray) (w : World) (hs : s.size ≤ 1073741824) :
    Calls Tryd.prog 81 #[.string s] w fun e w' => e = .returned (rtV (rtK s.data.toList [])) ∧ Below w.heap.size w w' := by
  go_enter Tryd.func81, Tryd.ntmps81
  go_wp2_with fail
  go_loopw [0] (fun sv wr => ∃ cur acc, sv = .string (bs cur) ∧ IsB w.heap.size w.heap.size acc wr ∧ rtK s.data.toList [] = rtK cur acc ∧ acc.length + cur.length ≤ s.size ∧ Below w.heap.size w wr) (fun sv _ => strLen sv)
  case atStart => exact ⟨s.data.toList, [], by rw [bs_of], IsB.new w, rfl, by rw [dlen]; exact Nat.le_of_eq (Nat.zero_add _), (Below.refl _ _).alloc (Nat.le_refl _) _⟩
  case round =>
    obtain ⟨cur, acc, rfl, ho, hR, hle, hbr⟩ := hrel
    have hcs := Lib.hid (bs_size cur)
    have hix := Tryd.strings_IndexByte (bs cur) 0 wr
    rw [bs_data, show (0 : Int).toNat.toUInt8 = (0 : UInt8) from rfl] at hix
    have hob := ho.lt
    rcases indexByte_cases cur with ⟨h1, h2⟩ | ⟨p, r, h1, h2, h3⟩
    · rw [h1] at hix
      have hN := hR.trans (rtK_none cur acc h2)
      replace hix := Lib.hid hix
      replace hN := Lib.hid hN
      replace hR := Lib.hid hR
      go_wp2_with fail
      refine hix.out.mono ?_
      rintro e w1 ⟨rfl, rfl⟩
      go_wp2_with fail
      go_ret3
      exact ⟨by rw [hN.out]; rfl, hbr⟩
    · rw [h3] at hix
      have hcl : cur.length = p.length + 1 + r.length := by rw [h1]; simp; omega
      have hnn : ¬ ((p.length : Nat) : Int) < 0 := by omega
      rcases r with _ | ⟨m, r⟩
      · have hN : rtK s.data.toList [] = none := by rw [hR, h1]; exact rtK_last p acc h2
        have heq : ((p.length : Nat) : Int) + 1 = ((bs cur).size : Nat) := by rw [hcs.out, hcl]; simp
        replace hix := Lib.hid hix
        replace hN := Lib.hid hN
        replace hR := Lib.hid hR
        replace h1 := Lib.hid h1
        go_wp2_with fail
        refine hix.out.mono ?_
        rintro e w1 ⟨rfl, rfl⟩
        go_wp2_with fail
        go_ret3
        exact ⟨by rw [hN.out]; rfl, hbr⟩
      · have hne : ¬ ((p.length : Nat) : Int) + 1 = ((bs cur).size : Nat) := by rw [hcs.out, hcl]; simp; omega
        have hbz : p.length + 2 ≤ (bs cur).size := by rw [hcs.out, hcl]; simp; omega
        have e1 : (bs cur).extract 0 p.length = bs p := by rw [bs_ext, h1]; simp
        have e2 : (bs cur).extract (p.length + 1) (p.length + 2) = bs [m] := by rw [bs_ext, h1, show p.length + 2 - (p.length + 1) = 1 from by omega, ← List.drop_drop, List.drop_left]; simp
        have e3 : (bs cur).extract (p.length + 2) (bs cur).size = bs r := by
          rw [bs_ext, h1, ← List.drop_drop, List.drop_left, List.take_of_length_le (by rw [← h1, hcs.out, hcl]; simp; omega)]
          rfl
        have hw0 := write_any w.heap.size w.heap.size acc (bs p) wr ho (by rw [bs_size]; omega) hbr.size
        rw [bs_data] at hw0
        have hmm : ((bs [m]).toList == ((⟨#[0, 1]⟩ : ByteArray).extract 1 2).toList) = decide (m = 1) := by
          rw [bs_toList, show ((⟨#[0, 1]⟩ : ByteArray).extract 1 2).toList = [1] from by rw [ByteArray.toList_eq]; rfl]
          by_cases h : m = 1 <;> simp [h]
        have hm2 : ((bs [m]).toList == [255]) = decide (m = 255) := by
          rw [bs_toList]
          by_cases h : m = 255 <;> simp [h]
        have hrt : rtK s.data.toList [] = (if m = 1 then some (acc ++ p, r) else if m = 255 then rtK r (acc ++ p ++ [0]) else none) := by
          rw [hR, h1, rtK_skip p (m :: r) acc h2, rtK, if_pos rfl]
        replace hix := Lib.hid hix
        replace hw0 := Lib.hid hw0
        replace hrt := Lib.hid hrt
        replace hR := Lib.hid hR
        replace h1 := Lib.hid h1
        replace h3 := Lib.hid h3
        have hbc : (bs cur).size ≤ 1073741824 := by rw [hcs.out]; omega
        have hd1 : decide (((p.length : Nat) : Int) < 0) = false := by simp
        have hd2 : (((p.length : Nat) : Int) + 1 == (((bs cur).size : Nat) : Int)) = false := by simpa using hne
        by_cases hq : m = 1
        · have hd : decide (m = 1) = true := by simpa using hq
          rw [hd] at hmm
          have hrt1 := hrt.out
          rw [if_pos hq] at hrt1
          replace hrt1 := Lib.hid hrt1
          clear hm2 hd hq hrt
          go_wp2_with fail
          refine hix.out.mono ?_
          rintro e w1 ⟨rfl, rfl⟩
          go_wp2_with fail
          refine hw0.out.mono ?_
          rintro e w2 ⟨rfl, ho2, hb2⟩
          have hob2 := ho2.lt
          go_wp2_with fail
          refine (Tryd.Builder_String_any w.heap.size w.heap.size (acc ++ p) w2 ho2 (Nat.le_trans hbr.size hb2.size)).mono ?_
          rintro e w3 ⟨rfl, hb3⟩
          go_wp2_with fail
          go_ret3
          refine ⟨?_, (hbr.trans hb2).trans hb3⟩
          rw [hrt1.out]
          simp only [rtV, e3]
          rfl
        · have hd : decide (m = 1) = false := by simpa using hq
          rw [hd] at hmm
          by_cases hq2 : m = 255
          · have hd3 : decide (m = 255) = true := by simpa using hq2
            rw [hd3] at hm2
            have hrt1 := hrt.out
            rw [if_neg hq, if_pos hq2] at hrt1
            replace hrt1 := Lib.hid hrt1
            clear hd hq hq2 hd3 hrt
            go_wp2_with fail
            refine hix.out.mono ?_
            rintro e w1 ⟨rfl, rfl⟩
            go_wp2_with fail
            refine hw0.out.mono ?_
            rintro e w2 ⟨rfl, ho2, hb2⟩
            have hob2 := ho2.lt
            have hw1 := write_any w.heap.size w.heap.size (acc ++ p) ⟨#[0]⟩ w2 ho2 (by rw [List.length_append]; show _ + 1 ≤ _; omega) (Nat.le_trans hbr.size hb2.size)
            replace hw1 := Lib.hid hw1
            go_wp2_with fail
            refine hw1.out.mono ?_
            rintro e w3 ⟨rfl, ho3, hb3⟩
            go_wp2_with fail
            have hcl2 : cur.length = p.length + 2 + r.length := by rw [hcl]; simp; omega
            refine ⟨⟨r, acc ++ p ++ [0], rfl, ho3, hrt1.out, by simp; omega, (hbr.trans hb2).trans hb3⟩, ?_⟩
            simp only [strLen]
            rw [bs_size, hcs.out]
            omega
          · have hd3 : decide (m = 255) = false := by simpa using hq2
            rw [hd3] at hm2
            have hrt1 := hrt.out
            rw [if_neg hq, if_neg hq2] at hrt1
            replace hrt1 := Lib.hid hrt1
            clear hd hq hq2 hd3 hrt
            go_wp2_with fail
            refine hix.out.mono ?_
            rintro e w1 ⟨rfl, rfl⟩
            go_wp2_with fail
            refine hw0.out.mono ?_
            rintro e w2 ⟨rfl, ho2, hb2⟩
            have hob2 := ho2.lt
            go_wp2_with fail
            go_ret3
            exact ⟨by rw [hrt1.out]; rfl, hbr.trans hb2⟩
end Go.Proofs.YtfnlponoakhegaaDoor
namespace Go.Proofs.YtfnlponoakhegaaDoor
open Go.RowKit
set_option linter.unusedVariables false
set_option linter.unusedSimpArgs false
theorem run_append_str {w : World} {base : Nat} {v : Value} {l : List UInt8} (ty : TypeId) (s : ByteArray) (hown : OwnB w base v l) (hbytes : l.length + s.size ≤ 70368744177664) (hbase : base ≤ w.heap.size) :
    ∃ v' w', (Builtin.append_ #[34, 9] ty #[v, .string s]).run Tryd.prog w = .ok v' w' ∧ OwnB w' base v' (l ++ s.data.toList) ∧ w.grownBy w' v.ownBlock ∧ (∀ k, v'.ownBlock = some k → v.ownBlock = some k ∨ k = w.heap.size) := by
  obtain ⟨i0, hi0, hz0, hz1, hz2⟩ := info_parts u8_info
  obtain ⟨v', w', hrun, h1, h2, h3⟩ := Lib.run_append_own_string (P := Tryd.prog) w base 34 9 ty 5 i0 Tryd.underlying34 Tryd.underlying9 hi0 hz0 hz1 hz2 v l.length (l.map B8) hown s (by unfold maxLen; omega) (by omega) hbase
  have hsl : s.data.toList.length = s.size := rfl
  refine ⟨v', w', hrun, ?_, h2, ?_⟩
  · unfold OwnB
    rw [List.length_append, List.map_append, hsl]
    exact h1
  · rcases hown.2 with ⟨rfl, hn⟩ | ⟨g, cap, cur, rfl, hbg, hg, hnc, hcm, hcs, htake⟩
    · by_cases hm : s.size = 0
      · rw [h3.2 ⟨rfl, hm⟩]
        intro k hk
        cases hk
      · have hr := run_append_nil_string (P := Tryd.prog) w 34 9 ty 5 i0 (.int .u8 0) Tryd.underlying34 Tryd.underlying9 hi0 hz0 s (by omega) (by omega) (by rw [hz2]; omega)
        rw [hrun] at hr
        injection hr with hr _
        subst hr
        intro k hk
        injection hk with hk
        exact .inr hk.symm
    · by_cases hroom : l.length + s.size ≤ cap
      · have hr := Lib.run_append_room_string (P := Tryd.prog) w 34 9 ty 5 i0 Tryd.underlying34 Tryd.underlying9 hi0 hz1 g l.length cap cur hg s hroom (by omega)
        rw [hrun] at hr
        injection hr with hr _
        subst hr
        exact fun k hk => .inl hk
      · have hr := Lib.run_append_grow_string (P := Tryd.prog) w 34 9 ty 5 i0 (.int .u8 0) Tryd.underlying34 Tryd.underlying9 hi0 hz0 ⟨g, 0, none⟩ l.length cap (l.map B8) (by rw [hz1]; simp) (hown.cells (g := g) rfl) s (by omega) (by omega) (by rw [hz2]; exact growslice_fits (by omega) (by omega))
        rw [hrun] at hr
        injection hr with hr _
        subst hr
        intro k hk
        injection hk with hk
        exact .inr hk.symm
theorem wpList_append_str {w : World} {ops : Array Oper} {rest : List Oper} {o : Oper} {a : Act} {Q : Exit → Act → World → Prop} (hgd : o.guard = none) (sl x : Operand)
    (ho : o.op = .call { callee := .builtin .append, args := #[sl, x], argTypes := #[34, 9] })
    (base : Nat) (v : Value) (l : List UInt8) (hs : a.eval sl = v) (hown : OwnB w base v l) (s : ByteArray) (hx : a.eval x = .string s) (hbytes : l.length + s.size ≤ 70368744177664) (hbase : base ≤ w.heap.size)
    (h : ∀ v' w', OwnB w' base v' (l ++ s.data.toList) → w.grownBy w' v.ownBlock → (∀ k, v'.ownBlock = some k → v.ownBlock = some k ∨ k = w.heap.size) → wpList Tryd.prog ops Q rest (a.put o.dst v') w') : wpList Tryd.prog ops Q (o :: rest) a w := by
  refine wpList_plain hgd fun K hK => ?_
  obtain ⟨v', w', hr, h2, h3, h4⟩ := run_append_str o.type s hown hbytes hbase
  unfold Oper.wp execOp
  simp only [ho, resolve, invoke, builtin, Sem.run_bind, Sem.run_pure, Result.andThen_ok, List.map_toArray, List.map_cons, List.map_nil, hs, hx, hr]
  exact hK _ _ (h v' w' h2 h3 h4)
end Go.Proofs.YtfnlponoakhegaaDoor
namespace Go.Proofs.YtfnlponoakhegaaDoor
open Go.RowKit
set_option linter.unusedVariables false
set_option linter.unusedSimpArgs false
def OwnW (w : World) (B : Nat) (v : Value) (l : List Nat) : Prop := w.ownsRow B 24 1 v l.length (l.map fun n => Value.int .u64 (n : Nat))
structure BBAt (w : World) (B g t off : Nat) (cs : Array Value) (s : BB) (vb vs : Value) : Prop where
  hB : B ≤ g
  blk : Blk w g t cs
  e0 : cs[off]? = some vb
  e1 : cs[off + 1]? = some vs
  e2 : cs[off + 2]? = some (.int .i64 s.count)
  e3 : cs[off + 3]? = some (.string (bs s.last))
  ob : OwnB w B vb s.b
  os : OwnW w B vs s.starts
  tb : t ≠ 5
  tw : t ≠ 24
def setBB (cs : Array Value) (off : Nat) (vb vs : Value) (s : BB) : Array Value := (((cs.setIfInBounds off vb).setIfInBounds (off + 1) vs).setIfInBounds (off + 2) (.int .i64 s.count)).setIfInBounds (off + 3) (.string (bs s.last))
def BS (g : Nat) (vb vs : Value) : Nat → Prop := fun k => k = g ∨ vb.ownBlock = some k ∨ vs.ownBlock = some k
def Moved (w : World) (v v' : Value) : Prop := v'.ownBlock = v.ownBlock ∨ ∃ k, v'.ownBlock = some k ∧ w.heap.size ≤ k
theorem BBAt.gb {w : World} {B g t off : Nat} {cs : Array Value} {s : BB} {vb vs : Value} (h : BBAt w B g t off cs s vb vs) : vb.ownBlock ≠ some g := own_blk_ne h.ob h.blk (fun e => h.tb e.symm)
theorem BBAt.gs {w : World} {B g t off : Nat} {cs : Array Value} {s : BB} {vb vs : Value} (h : BBAt w B g t off cs s vb vs) : vs.ownBlock ≠ some g := own_blk_ne h.os h.blk (fun e => h.tw e.symm)
theorem own_types {w : World} {B B' e e' m m' n n' : Nat} {v v' : Value} {xs xs' : List Value} (h : w.ownsRow B e m v n xs) (h' : w.ownsRow B' e' m' v' n' xs') (hne : e ≠ e') : ∀ k, v.ownBlock = some k → v'.ownBlock ≠ some k := by
  intro k hk
  rcases h.2 with ⟨rfl, _⟩ | ⟨g, cap, cur, rfl, hg, hh, _⟩
  · simp [Value.ownBlock] at hk
  · simp only [Value.ownBlock, Option.some.injEq] at hk
    subst hk
    exact own_blk_ne h' (t := e) hh (fun e => hne e.symm)
theorem BBAt.nbs {w : World} {B g t off : Nat} {cs : Array Value} {s : BB} {vb vs : Value} (h : BBAt w B g t off cs s vb vs) : ∀ k, vb.ownBlock = some k → vs.ownBlock ≠ some k := own_types h.ob h.os (by decide)
theorem BBAt.below {w w' : World} {B g t off : Nat} {cs : Array Value} {s : BB} {vb vs : Value} (h : BBAt w B g t off cs s vb vs) (hb : Below w.heap.size w w') : BBAt w' B g t off cs s vb vs :=
  ⟨h.hB, h.blk.below hb h.blk.lt, h.e0, h.e1, h.e2, h.e3, own_block h.ob (fun k hk => hb.block k (own_lt h.ob k hk).2), own_block h.os (fun k hk => hb.block k (own_lt h.os k hk).2), h.tb, h.tw⟩
theorem BBAt.kept {w w' : World} {S : Nat → Prop} {B g t off : Nat} {cs : Array Value} {s : BB} {vb vs : Value} (h : BBAt w B g t off cs s vb vs) (hk : KeptBut w w' S) (h0 : ¬ S g) (h1 : ∀ k, vb.ownBlock = some k → ¬ S k) (h2 : ∀ k, vs.ownBlock = some k → ¬ S k) : BBAt w' B g t off cs s vb vs :=
  ⟨h.hB, h.blk.keptB hk h0, h.e0, h.e1, h.e2, h.e3, own_kept h.ob hk h1, own_kept h.os hk h2, h.tb, h.tw⟩
/-- The block turned elsewhere. -/
theorem BBAt.kept_blk {w w' : World} {S : Nat → Prop} {B g t off : Nat} {cs cs' : Array Value} {s : BB} {vb vs : Value} (h : BBAt w B g t off cs s vb vs) (hk : KeptBut w w' S) (hb : Blk w' g t cs') (hcs : ∀ i, i < 4 → cs'[off + i]? = cs[off + i]?) (h1 : ∀ k, vb.ownBlock = some k → ¬ S k) (h2 : ∀ k, vs.ownBlock = some k → ¬ S k) : BBAt w' B g t off cs' s vb vs :=
  ⟨h.hB, hb, (hcs 0 (by omega)).trans h.e0, (hcs 1 (by omega)).trans h.e1, (hcs 2 (by omega)).trans h.e2, (hcs 3 (by omega)).trans h.e3, own_kept h.ob hk h1, own_kept h.os hk h2, h.tb, h.tw⟩
theorem Moved.trans {w w' : World} {v v' v'' : Value} (h : Moved w v v') (h' : Moved w' v' v'') (hz : w.heap.size ≤ w'.heap.size) : Moved w v v'' := by
  rcases h' with e | ⟨k, e, hk⟩
  · rcases h with e1 | ⟨k, e1, hk⟩
    · exact .inl (e.trans e1)
    · exact .inr ⟨k, e.trans e1, hk⟩
  · exact .inr ⟨k, e, Nat.le_trans hz hk⟩
theorem Moved.refl (w : World) (v : Value) : Moved w v v := .inl rfl
theorem u8_beq (a b : UInt8) : (((a.toNat : Nat) : Int) == ((b.toNat : Nat) : Int)) = decide (a = b) := by
  by_cases h : a = b
  · subst h; simp
  · have : ¬ ((a.toNat : Nat) : Int) = ((b.toNat : Nat) : Int) := fun h' => h (UInt8.toNat_inj.1 (by omega))
    simp [this, h]

set_option maxRecDepth 100000 in
set_option maxHeartbeats 4000000 in
theorem shared_any (a b : ByteArray) (w : World) (ha : a.size ≤ 1099511627776) :
    Calls Tryd.prog 54 #[.string a, .string b] w fun e w' => e = .returned (.int .i64 (sharedL a.data.toList b.data.toList : Nat)) ∧ Below w.heap.size w w' := by
  go_enter Tryd.func54, Tryd.ntmps54
  go_wp2_with fail
  go_loopw [5] (fun i wr => ∃ k : Nat, i = .int .i64 k ∧ k ≤ a.size ∧ k ≤ b.size ∧ sharedL a.data.toList b.data.toList = k + sharedL (a.data.toList.drop k) (b.data.toList.drop k) ∧ Below w.heap.size w wr) (fun i _ => a.size - (intOf i).toNat)
  case atStart => exact ⟨0, rfl, Nat.zero_le _, Nat.zero_le _, by simp, Below.refl _ _⟩
  case round =>
    obtain ⟨k, rfl, hka, hkb, hs, hbr⟩ := hrel
    replace hs := Lib.hid hs
    replace hbr := Lib.hid hbr
    by_cases h1 : k < a.size
    · have h1' : (k : Int) < a.size := by omega
      have la : k < a.data.toList.length := by rw [Lib.size_eq] at h1; exact h1
      by_cases h2 : k < b.size
      · have h2' : (k : Int) < b.size := by omega
        have lb : k < b.data.toList.length := by rw [Lib.size_eq] at h2; exact h2
        have ka : k < a.data.size := h1
        have kb : k < b.data.size := h2
        have ga : a[k] = a.data[k] := rfl
        have gb : b[k] = b.data[k] := rfl
        have hsk : sharedL (a.data.toList.drop k) (b.data.toList.drop k) = if a.data[k] = b.data[k] then sharedL (a.data.toList.drop (k + 1)) (b.data.toList.drop (k + 1)) + 1 else 0 := by
          rw [List.drop_eq_getElem_cons la, List.drop_eq_getElem_cons lb]
          rfl
        replace hsk := Lib.hid hsk
        have hcc := u8_beq a.data[k] b.data[k]
        by_cases he : a.data[k] = b.data[k]
        · generalize a.data[k] = ca at *
          generalize b.data[k] = cb at *
          subst he
          go_wp2_with fail
          go_region
          go_wp2_with fail
          refine ⟨⟨k + 1, by rfl, by omega, by omega, ?_, hbr.out.drew⟩, by first | omega | (simp only [intOf]; omega)⟩
          rw [hs.out, hsk.out]
          simp
          omega
        · generalize a.data[k] = ca at *
          generalize b.data[k] = cb at *
          have he2 : ¬ ((ca.toNat : Nat) : Int) = ((cb.toNat : Nat) : Int) := fun h => he (UInt8.toNat_inj.1 (by omega))
          go_wp2_with fail
          go_region
          go_wp2_with fail
          go_ret
          refine ⟨?_, hbr.out.drew⟩
          rw [hs.out, hsk.out, if_neg he]
          rfl
      · obtain rfl : k = b.size := by omega
        have h2' : ¬ (b.size : Int) < b.size := by omega
        go_wp2_with fail
        go_region
        go_wp2_with fail
        go_ret
        refine ⟨?_, hbr.out.drew⟩
        rw [hs.out, show b.data.toList.drop b.size = [] from List.drop_of_length_le (by rw [Lib.size_eq]; exact Nat.le_refl _)]
        cases (a.data.toList.drop b.size) <;> rfl
    · obtain rfl : k = a.size := by omega
      have h1' : ¬ (a.size : Int) < a.size := by omega
      go_wp2_with fail
      go_region
      go_wp2_with fail
      go_ret
      refine ⟨?_, hbr.out.drew⟩
      rw [hs.out, show a.data.toList.drop a.size = [] from List.drop_of_length_le (by rw [Lib.size_eq]; exact Nat.le_refl _)]
      rfl
theorem add_off (g off i : Nat) : (⟨g, off, none⟩ : Addr).add i = ⟨g, off + i, none⟩ := by cases i <;> simp [Addr.add]
set_option maxRecDepth 100000 in
set_option maxHeartbeats 4000000 in
theorem BAdd_err {w : World} {B g t off : Nat} {cs : Array Value} {s : BB} {vb vs : Value} (h : BBAt w B g t off cs s vb vs) (k v : ByteArray) (he : s.err k.data.toList v.data.toList ≠ 0) :
    Calls Tryd.prog 32 #[.pointer (some ⟨g, off, none⟩), .string k, .string v] w fun e w' => e = .returned (.int .i64 (s.err k.data.toList v.data.toList : Nat)) ∧ Below w.heap.size w w' := by
  have c2 := (h.blk.cell (off + 2)).trans h.e2
  have c3 := (h.blk.cell (off + 3)).trans h.e3
  have hlt := h.blk.lt
  have hlk : k.data.toList.length = k.size := (Lib.size_eq k).symm
  have hlv : v.data.toList.length = v.size := (Lib.size_eq v).symm
  have hle : (Op.bytesLess k.toList (bs s.last).toList || k.toList == (bs s.last).toList) = !(lessL s.last k.data.toList) := by
    rw [bs_toList, ByteArray.toList_eq]
    exact less_tri _ _
  by_cases hlong : 1024 < k.size ∨ 1024 < v.size
  · have hE : s.err k.data.toList v.data.toList = 3 := by unfold BB.err; rw [hlk, hlv, if_pos hlong]
    rw [hE]
    clear hE he hle
    go_enter Tryd.func32, Tryd.ntmps32
    by_cases h1 : 1024 < k.size
    · have h1' : (1024 : Int) < k.size := by omega
      go_wp2_with fail
      go_ret
      exact ⟨rfl, Below.refl _ _⟩
    · have h1' : ¬ (1024 : Int) < k.size := by omega
      have h2' : (1024 : Int) < v.size := by omega
      go_wp2_with fail
      go_ret
      exact ⟨rfl, Below.refl _ _⟩
  · have h1' : ¬ (1024 : Int) < k.size := by omega
    have h2' : ¬ (1024 : Int) < v.size := by omega
    have hE : s.err k.data.toList v.data.toList = 1 ∧ 0 < s.count ∧ lessL s.last k.data.toList = false := by
      unfold BB.err at he ⊢
      rw [hlk, hlv, if_neg hlong] at he ⊢
      split at he
      · rename_i hh
        exact ⟨by rw [if_pos hh], hh⟩
      · exact absurd rfl he
    obtain ⟨hE, hc, hl⟩ := hE
    rw [hl] at hle
    have hc' : (0 : Int) < s.count := by omega
    rw [hE]
    clear hE he hl hlong
    replace hlk := Lib.hid hlk
    replace hlv := Lib.hid hlv
    go_enter Tryd.func32, Tryd.ntmps32
    go_wp2_with fail
    go_ret
    exact ⟨rfl, Below.refl _ _⟩
/-- The rows of numbers. -/
theorem u64_info : (Tryd.prog.info? 24).map (fun i => (i.zero, i.size, i.bytes)) = some (some (.int .u64 0), 1, 8) := by kernel_rfl
end Go.Proofs.YtfnlponoakhegaaDoor
