/- Maps from pointers to pointers: as lists. -/
import Derived.Test.YtkhicfoikkllmaaOwn
import Derived.MapKept
import Derived.LaidEql
namespace Go.Proofs.Ytkhicfoikkllmaa
open Go.RowKit
set_option linter.unusedVariables false
set_option linter.unusedSimpArgs false
def ptr (b : Nat) : Value := .pointer (some ⟨b, 0, none⟩)
def getP (a : Nat) (m : List (Nat × Nat)) : Option Nat := (m.find? fun p => p.1 == a).map (·.2)
def CellsAt (w : World) (b : Nat) : Prop := ∃ cs t, w.heap[b]? = some (.cells cs t (0, 0))
def PM (w : World) (g : Nat) (m : List (Nat × Nat)) : Prop := ∃ es clock, w.heap[g]? = some (.map es clock) ∧ es.toList.map (fun e => (e.key, e.val)) = m.map fun p => (ptr p.1, ptr p.2)
section
variable {P : Program} {w : World} {kt te : TypeId} {j : TypeInfo}
theorem equalIn_ptr (d : Nat) (ht : P.underlying kt = some (.pointer te)) (hj : P.info? te = some j) (hs : j.size ≠ 0) {a b : Nat} (ha : CellsAt w a) (hb : CellsAt w b) : (Op.equalIn (d + 1) kt (ptr a) (ptr b)).run P w = .ok (a == b) w := by
  obtain ⟨ca, ta, ha⟩ := ha
  obtain ⟨cb, tb, hb⟩ := hb
  by_cases e : a = b
  · subst e
    simp [ptr, Op.equalIn, run_underlying ht, sizeOf, typeInfo, hj, hs, run_sameAddr_same, Result.andThen]
  · have hne : (⟨a, 0, none⟩ : Addr) ≠ ⟨b, 0, none⟩ := fun h => e (by injection h)
    have hq := run_sameAddr_other (P := P) w hne ha hb
    simp [ptr, Op.equalIn, run_underlying ht, sizeOf, typeInfo, hj, hs, hq, e, Result.andThen]
theorem equal_ptr (ht : P.underlying kt = some (.pointer te)) (hj : P.info? te = some j) (hs : j.size ≠ 0) {a b : Nat} (ha : CellsAt w a) (hb : CellsAt w b) : (Op.equal kt (ptr a) (ptr b)).run P w = .ok (a == b) w := equalIn_ptr 9999 ht hj hs ha hb
theorem equalIn_none (d : Nat) (ht : P.underlying kt = some (.pointer te)) (b : Nat) : (Op.equalIn (d + 1) kt (.pointer none) (ptr b)).run P w = .ok false w := by
  simp [ptr, Op.equalIn, run_underlying ht, Result.andThen]
theorem equal_none (ht : P.underlying kt = some (.pointer te)) (b : Nat) : (Op.equal kt (.pointer none) (ptr b)).run P w = .ok false w := equalIn_none 9999 ht b
theorem asking_ptr (ht : P.underlying kt = some (.pointer te)) (hj : P.info? te = some j) (hs : j.size ≠ 0) {b : Nat} (hb : CellsAt w b) : ∀ (es : List MapEntry) (m : List (Nat × Nat)) (i : Nat), es.map (fun e => (e.key, e.val)) = m.map (fun p => (ptr p.1, ptr p.2)) → (∀ p ∈ m, CellsAt w p.1) →
    ∃ r, (Instr.findAsking kt (ptr b) es i).run P w = .ok r w ∧ r.map (·.2) = (getP b m).map ptr
  | [], [], i, _, _ => ⟨none, by simp [Instr.findAsking], rfl⟩
  | [], p :: m, i, h, _ => by simp at h
  | e :: es, [], i, h, _ => by simp at h
  | e :: es, p :: m, i, h, hc => by
    simp only [List.map_cons, List.cons.injEq, Prod.mk.injEq] at h
    obtain ⟨⟨h1, h2⟩, h3⟩ := h
    have hq := equal_ptr ht hj hs hb (hc p (by simp))
    unfold Instr.findAsking
    rw [h1]
    simp only [Sem.run_bind, hq, Result.andThen]
    by_cases hbp : b = p.1
    · refine ⟨some (i, e.val), by simp [hbp], ?_⟩
      unfold getP
      rw [List.find?_cons, show (p.1 == b) = true from by simpa using hbp.symm]
      simp [h2]
    · obtain ⟨r, hr, hm⟩ := asking_ptr ht hj hs hb es m (i + 1) h3 (fun q hq => hc q (List.mem_cons_of_mem _ hq))
      refine ⟨r, ?_, ?_⟩
      · rw [show (b == p.1) = false from by simpa using hbp]
        simpa using hr
      · rw [hm]
        unfold getP
        rw [List.find?_cons, show (p.1 == b) = false from by simpa using fun e => hbp e.symm]
theorem asking_none (ht : P.underlying kt = some (.pointer te)) : ∀ (es : List MapEntry) (m : List (Nat × Nat)) (i : Nat), es.map (fun e => (e.key, e.val)) = m.map (fun p => (ptr p.1, ptr p.2)) → (Instr.findAsking kt (.pointer none) es i).run P w = .ok none w
  | [], _, i, _ => by simp [Instr.findAsking]
  | e :: es, [], i, h => by simp at h
  | e :: es, p :: m, i, h => by
    simp only [List.map_cons, List.cons.injEq, Prod.mk.injEq] at h
    obtain ⟨⟨h1, h2⟩, h3⟩ := h
    unfold Instr.findAsking
    rw [h1]
    simp only [Sem.run_bind, equal_none ht, Result.andThen]
    simpa using asking_none ht es m (i + 1) h3
theorem now_ptr (k : Value) (e : MapEntry) (es : List MapEntry) : Instr.findNow (.pointer te) k (e :: es) 0 = none := by
  simp [Instr.findNow, Instr.sameNow]
theorem find_ptr (ht : P.underlying kt = some (.pointer te)) (hj : P.info? te = some j) (hs : j.size ≠ 0) {b : Nat} (hb : CellsAt w b) {es : List MapEntry} {m : List (Nat × Nat)} (h : es.map (fun e => (e.key, e.val)) = m.map (fun p => (ptr p.1, ptr p.2))) (hc : ∀ p ∈ m, CellsAt w p.1) :
    ∃ r, (Instr.findKey kt (ptr b) es).run P w = .ok r w ∧ r.map (·.2) = (getP b m).map ptr := by
  cases es with
  | nil =>
    cases m with
    | nil => exact ⟨none, by simp [Instr.findKey, run_underlying ht, Result.andThen, Instr.findNow], rfl⟩
    | cons p m => simp at h
  | cons e es =>
    obtain ⟨r, hr, hm⟩ := asking_ptr ht hj hs hb (e :: es) m 0 h hc
    refine ⟨r, ?_, hm⟩
    simp [Instr.findKey, run_underlying ht, Result.andThen, now_ptr, hr]
theorem find_none (ht : P.underlying kt = some (.pointer te)) {es : List MapEntry} {m : List (Nat × Nat)} (h : es.map (fun e => (e.key, e.val)) = m.map (fun p => (ptr p.1, ptr p.2))) : (Instr.findKey kt (.pointer none) es).run P w = .ok none w := by
  cases es with
  | nil => simp [Instr.findKey, run_underlying ht, Result.andThen, Instr.findNow]
  | cons e es => simp [Instr.findKey, run_underlying ht, Result.andThen, now_ptr, asking_none ht (e :: es) m 0 h]
theorem checkN_ptr (n : Nat) (ht : P.underlying kt = some (.pointer te)) (e : Bool) (x : Option Addr) : (Instr.checkKey e (n + 1) kt (.pointer x)).run P w = .ok () w := by
  unfold Instr.checkKey
  simp [run_underlying ht, Result.andThen]
theorem check_ptr (ht : P.underlying kt = some (.pointer te)) (e : Bool) (x : Option Addr) : (Instr.checkKey e 10000 kt (.pointer x)).run P w = .ok () w := checkN_ptr 9999 ht e x
theorem PM.lt {g : Nat} {m : List (Nat × Nat)} (h : PM w g m) : g < w.heap.size := by
  obtain ⟨es, c, h1, _⟩ := h
  rcases Nat.lt_or_ge g w.heap.size with h' | h'
  · exact h'
  · rw [Array.getElem?_eq_none h'] at h1; cases h1
theorem PM.new (w : World) : PM (w.alloc (.map #[] 0)) w.heap.size [] := ⟨#[], 0, (MapKept.heap_alloc w _).1, rfl⟩
theorem PM.block {w' : World} {g : Nat} {m : List (Nat × Nat)} (h : PM w g m) (hb : w'.heap[g]? = w.heap[g]?) : PM w' g m := by
  obtain ⟨es, c, h1, h2⟩ := h
  exact ⟨es, c, hb.trans h1, h2⟩
theorem PM.look {t et : TypeId} {g : Nat} {m : List (Nat × Nat)} (h : PM w g m) (hT : P.underlying t = some (.map kt et)) (ht : P.underlying kt = some (.pointer te)) (hj : P.info? te = some j) (hs : j.size ≠ 0) (hz : (zeroValue et).run P w = .ok (.pointer none) w) {b : Nat} (hb : CellsAt w b) (hc : ∀ p ∈ m, CellsAt w p.1) :
    (Instr.lookup t (.map (some g)) (ptr b) false).run P w = .ok (ptrV (getP b m)) w := by
  obtain ⟨es, c, h1, h2⟩ := h
  obtain ⟨r, hr, hm⟩ := find_ptr ht hj hs hb h2 hc
  have hck := fun e => check_ptr (P := P) (w := w) ht e (some ⟨b, 0, none⟩)
  have hg := MapKept.run_getObj_map (P := P) h1
  unfold ptr at hr ⊢
  unfold Instr.lookup
  simp only [Sem.run_bind, run_underlying hT, Result.andThen, hg, Sem.run_pure, hck, hr]
  cases r with
  | none =>
    cases hgp : getP b m with
    | none => simp [hz, Result.andThen, ptrV]
    | some v => rw [hgp] at hm; simp at hm
  | some x =>
    cases hgp : getP b m with
    | none => rw [hgp] at hm; simp at hm
    | some v =>
      rw [hgp] at hm
      simp at hm
      simp [hm, Result.andThen, ptrV, ptr]
theorem PM.look_nil {t et : TypeId} {g : Nat} {m : List (Nat × Nat)} (h : PM w g m) (hT : P.underlying t = some (.map kt et)) (ht : P.underlying kt = some (.pointer te)) (hz : (zeroValue et).run P w = .ok (.pointer none) w) :
    (Instr.lookup t (.map (some g)) (.pointer none) false).run P w = .ok (.pointer none) w := by
  obtain ⟨es, c, h1, h2⟩ := h
  have hr := find_none (P := P) (w := w) ht h2
  have hck := fun e => check_ptr (P := P) (w := w) ht e none
  have hg := MapKept.run_getObj_map (P := P) h1
  unfold Instr.lookup
  simp only [Sem.run_bind, run_underlying hT, Result.andThen, hg, Sem.run_pure, hck, hr]
  simp [hz, Result.andThen]
theorem PM.store {t et : TypeId} {g : Nat} {m : List (Nat × Nat)} (h : PM w g m) (hT : P.underlying t = some (.map kt et)) (ht : P.underlying kt = some (.pointer te)) (hj : P.info? te = some j) (hs : j.size ≠ 0) {b v : Nat} (hb : CellsAt w b) (hc : ∀ p ∈ m, CellsAt w p.1) (hn : getP b m = none) :
    ∃ w', (Instr.mapUpdate t (.map (some g)) (ptr b) (ptr v)).run P w = .ok () w' ∧ PM w' g (m ++ [(b, v)]) ∧ KeptBut w w' (fun k => k = g) := by
  obtain ⟨es, c, h1, h2⟩ := h
  obtain ⟨r, hr, hm⟩ := find_ptr ht hj hs hb h2 hc
  rw [hn] at hm
  have hr0 : r = none := by cases r with | none => rfl | some x => simp at hm
  subst hr0
  have hck := fun e => check_ptr (P := P) (w := w) ht e (some ⟨b, 0, none⟩)
  have hg := MapKept.run_getObj_map (P := P) h1
  have hset := MapKept.run_setObj_map (P := P) (.map (es.push { key := ptr b, val := ptr v, born := c }) (c + 1)) h1
  have hp := MapKept.heap_set (o' := .map (es.push { key := ptr b, val := ptr v, born := c }) (c + 1)) h1
  refine ⟨{ w with heap := w.heap.setIfInBounds g (.map (es.push { key := ptr b, val := ptr v, born := c }) (c + 1)) }, ?_, ⟨_, _, hp.1, ?_⟩, ⟨rfl, rfl, rfl, by simp, fun k hk hne => hp.2 k hne⟩⟩
  · unfold ptr at hr hset ⊢
    unfold Instr.mapUpdate
    simp only [Sem.run_bind, run_underlying hT, Result.andThen, hg, hck, hr, hset]
  · simp [h2]
end
end Go.Proofs.Ytkhicfoikkllmaa
