/- The law's events: what the view and the document's list tell of them is the same. -/
import Derived.Test.YtbaobjkhdieapaaDoorOwn3
namespace Go.Proofs.YtbaobjkhdieapaaDoor
open Go.RowKit
set_option linter.unusedVariables false
set_option linter.unusedSimpArgs false

structure Ev where
  c : Nat
  n : Nat
  a : List UInt8
structure Ev.Ok (e : Ev) : Prop where
  c : e.c ≤ 255
  n : e.n < 18446744073709551616
  a : e.a.length ≤ 480
def evOps (l : List Ev) : List Op3 := l.map fun e => keepOp e.c e.n e.a
def evRef (l : List Ev) : List Last3 := l.foldl (fun r e => rKeepL r e.c e.n (bs e.a)) []
theorem evRef_snoc (l : List Ev) (e : Ev) : evRef (l ++ [e]) = rKeepL (evRef l) e.c e.n (bs e.a) := by simp [evRef]
theorem evOps_snoc (l : List Ev) (e : Ev) : evOps (l ++ [e]) = evOps l ++ [keepOp e.c e.n e.a] := by simp [evOps]
theorem key_eq (c d : Nat) (hc : c ≤ 255) (hd : d ≤ 255) : bs (clientL c) = bs (clientL d) ↔ c = d := by
  constructor
  · intro h
    have := congrArg (fun s : ByteArray => s.data.toList) h
    simp only [bs_data] at this
    exact clientL_inj c d (by omega) (by omega) this
  · rintro rfl; rfl
/-- The last event of a client. -/
def lastEv (l : List Ev) (c : Nat) : Option Ev := l.foldl (fun r e => if e.c = c then some e else r) none
theorem lastEv_snoc (l : List Ev) (e : Ev) (c : Nat) : lastEv (l ++ [e]) c = if e.c = c then some e else lastEv l c := by simp [lastEv]
theorem snoc_ind {P : List Ev → Prop} (h0 : P []) (h1 : ∀ l e, P l → P (l ++ [e])) (l : List Ev) : P l := by
  have : ∀ n (l : List Ev), l.length = n → P l := by
    intro n
    induction n with
    | zero => intro l h; rw [List.length_eq_zero_iff.1 h]; exact h0
    | succ n ih =>
      intro l h
      have hne : l ≠ [] := by rintro rfl; simp at h
      rw [← List.dropLast_concat_getLast hne]
      exact h1 _ _ (ih _ (by simp [h]))
  exact this _ l rfl
theorem lastEv_mem (l : List Ev) (c : Nat) (e : Ev) : lastEv l c = some e → e ∈ l ∧ e.c = c := by
  induction l using snoc_ind with
  | h0 => intro h; cases h
  | h1 l x ih =>
    rw [lastEv_snoc]
    intro h
    split at h
    · rename_i hx
      injection h with h
      subst h
      exact ⟨by simp, hx⟩
    · obtain ⟨h1, h2⟩ := ih h
      exact ⟨by simp [h1], h2⟩
theorem getL_ev (l : List Ev) (c : Nat) (hc : c ≤ 255) (hl : ∀ e ∈ l, e.Ok) : getL (evOps l) (bs (clientL c)) = match lastEv l c with
    | none => (⟨#[]⟩, false)
    | some e => (bs (valueL e.n e.a), true) := by
  induction l using snoc_ind with
  | h0 => rfl
  | h1 l x ih =>
    have ih := ih (fun e he => hl e (by simp [he]))
    have hx := hl x (by simp)
    rw [evOps_snoc, getL_snoc, lastEv_snoc]
    by_cases h : x.c = c
    · rw [if_pos h, if_pos (by simp only [keepOp]; rw [key_eq _ _ hx.c hc]; exact h)]
      rfl
    · rw [if_neg h, if_neg (by simp only [keepOp]; rw [key_eq _ _ hx.c hc]; exact h)]
      exact ih
theorem filter_ref (l : List Ev) (c : Nat) : (evRef l).filter (fun o => decide (o.c = c)) = match lastEv l c with
    | none => []
    | some e => [⟨e.c, e.n, bs e.a⟩] := by
  induction l using snoc_ind with
  | h0 => rfl
  | h1 l x ih =>
    rw [evRef_snoc, lastEv_snoc]
    unfold rKeepL
    rw [List.filter_append, List.filter_filter]
    by_cases h : x.c = c
    · rw [if_pos h]
      have : (evRef l).filter (fun o => decide (o.c = c) && decide (o.c ≠ x.c)) = [] := by
        rw [List.filter_eq_nil_iff]
        intro o ho
        simp [h]
      rw [this]
      simp [h]
    · rw [if_neg h]
      have : (evRef l).filter (fun o => decide (o.c = c) && decide (o.c ≠ x.c)) = (evRef l).filter (fun o => decide (o.c = c)) := by
        apply List.filter_congr
        intro o ho
        by_cases h2 : o.c = c
        · have : o.c ≠ x.c := fun e => h (by omega)
          simp [h2]
          omega
        · simp [h2]
      rw [this, ih]
      simp [h]
theorem rAskL_filter (l : List Last3) (c n : Nat) : rAskL l c n = rAskL (l.filter (fun o => decide (o.c = c))) c n := by
  induction l with
  | nil => rfl
  | cons o l ih =>
    by_cases h : o.c = c
    · rw [List.filter_cons_of_pos (by simpa using h)]
      simp only [rAskL, h, if_true]
      rw [ih]
    · rw [List.filter_cons_of_neg (by simpa using h)]
      simp only [rAskL, h, if_false]
      exact ih
theorem ask_same (l : List Ev) (c n : Nat) (hc : c ≤ 255) (hl : ∀ e ∈ l, e.Ok) : rAskL (evRef l) c n = askL (evOps l) c n := by
  rw [rAskL_filter, filter_ref]
  unfold askL
  rw [getL_ev l c hc hl]
  cases h : lastEv l c with
  | none => simp [rAskL]
  | some e =>
    obtain ⟨he, hec⟩ := lastEv_mem l c e h
    have ok := hl e he
    simp only [Bool.true_eq_false, if_false, bs_data]
    rw [readClient_value e.n ok.n e.a ok.a]
    simp only [rAskL, hec, if_true]
    by_cases h1 : n = e.n
    · rw [if_pos h1, if_neg (by omega), if_neg (by omega)]
    · rw [if_neg h1]
      by_cases h2 : n < e.n
      · rw [if_pos h2, if_neg (by omega)]
        rw [if_pos h2]
      · rw [if_neg h2, if_pos (by omega)]
theorem getL_size (l : List Ev) (c : Nat) (hc : c ≤ 255) (hl : ∀ e ∈ l, e.Ok) : (getL (evOps l) (bs (clientL c))).1.size ≤ 1073741824 := by
  rw [getL_ev l c hc hl]
  cases h : lastEv l c with
  | none => simp [ByteArray.size]
  | some e =>
    have := valueL_len e.n e.a (hl e (lastEv_mem l c e h).1).a
    simp only []
    rw [bs_size]
    omega
theorem evRef_len (l : List Ev) : (evRef l).length ≤ l.length := by
  induction l using snoc_ind with
  | h0 => simp [evRef]
  | h1 l e ih =>
    rw [evRef_snoc]
    unfold rKeepL
    have := List.length_filter_le (fun o : Last3 => decide (o.c ≠ e.c)) (evRef l)
    simp only [List.length_append, List.length_singleton]
    omega
theorem evRef_ok (l : List Ev) (hl : ∀ e ∈ l, e.Ok) : ∀ o ∈ evRef l, o.c ≤ 255 ∧ (o.n : Int) ≤ 18446744073709551615 := by
  induction l using snoc_ind with
  | h0 => intro o ho; simp [evRef] at ho
  | h1 l e ih =>
    intro o ho
    rw [evRef_snoc] at ho
    unfold rKeepL at ho
    simp only [List.mem_append, List.mem_filter, List.mem_singleton] at ho
    rcases ho with ⟨ho, _⟩ | rfl
    · exact ih (fun e he => hl e (by simp [he])) o ho
    · have := hl e (by simp)
      exact ⟨this.c, by have := this.n; simp only []; omega⟩
end Go.Proofs.YtbaobjkhdieapaaDoor
