/- TableRange. -/
import Derived.Test.YtfnlponoakhegaaDoorM22
namespace Go.Proofs.YtfnlponoakhegaaDoor
open Go.RowKit
set_option linter.unusedVariables false
set_option linter.unusedSimpArgs false
theorem filter_at {p : Ent → Bool} {l : List Ent} {i : Nat} {e : Ent} (h : l[i]? = some e) (hp : p e = true) : (l.filter p)[((l.take i).filter p).length]? = some e := by
  obtain ⟨hi, rfl⟩ := List.getElem?_eq_some_iff.1 h
  have e1 : l = l.take i ++ l[i] :: l.drop (i + 1) := by rw [← List.drop_eq_getElem_cons hi, List.take_append_drop]
  have e2 : l.filter p = (l.take i).filter p ++ (l[i] :: (l.drop (i + 1)).filter p) := by
    conv => lhs; rw [e1]
    rw [List.filter_append, List.filter_cons, if_pos hp]
  rw [e2, List.getElem?_append_right (Nat.le_refl _), Nat.sub_self]
  rfl
theorem filter_step {p : Ent → Bool} {l : List Ent} {i : Nat} {e : Ent} (h : l[i]? = some e) : ((l.take (i + 1)).filter p).length = ((l.take i).filter p).length + if p e = true then 1 else 0 := by
  obtain ⟨hi, rfl⟩ := List.getElem?_eq_some_iff.1 h
  rw [List.take_succ_eq_append_getElem hi, List.filter_append, List.length_append]
  congr 1
  rw [List.filter_cons]
  split <;> rfl
def tk200 (s : ByteArray) : ByteArray := bs (s.data.toList.take 200)
/-- What got's row has left. -/
def GotR (w : World) (gg : Nat) (k : Nat) (L : List Ent) : Prop := ∃ cur, Blk w gg 33 cur ∧ ∀ j u, 4 * k ≤ j → (entsC L)[j]? = some u → cur[j]? = some u
theorem GotR.cell {w : World} {gg k : Nat} {L : List Ent} (h : GotR w gg k L) {j : Nat} {u : Value} (hj : 4 * k ≤ j) (hu : (entsC L)[j]? = some u) : w.cell? ⟨gg, j, none⟩ = some u ∧ w.frozen? ⟨gg, j, none⟩ = false ∧ gg < w.heap.size := by
  obtain ⟨cur, hb, hc⟩ := h
  exact ⟨(hb.cell j).trans (hc j u hj hu), hb.frozen j, hb.lt⟩
theorem GotR.set {w : World} {gg k : Nat} {L : List Ent} (h : GotR w gg k L) (v : Value) : GotR (w.setCell ⟨gg, k * 4, none⟩ v) gg (k + 1) L := by
  obtain ⟨cur, hb, hc⟩ := h
  refine ⟨_, hb.set_ (k * 4) v, fun j u hj hu => ?_⟩
  rw [Array.getElem?_setIfInBounds_ne (by omega)]
  exact hc j u (by omega) hu
theorem GotR.below {w w' : World} {gg k : Nat} {L : List Ent} (h : GotR w gg k L) (hb : Below w.heap.size w w') : GotR w' gg k L := by
  obtain ⟨cur, hx, hc⟩ := h
  exact ⟨cur, hx.below hb hx.lt, hc⟩
/-- A got row: nil, or a block. -/
theorem got_of {w : World} {B : Nat} {v : Value} {L : List Ent} (h : OwnE w B v L) : ∃ A c, v = .slice A L.length c ∧ (L ≠ [] → ∃ gg, A = some ⟨gg, 0, none⟩ ∧ B ≤ gg ∧ GotR w gg 0 L) := by
  rcases h.2 with ⟨rfl, e⟩ | ⟨g, cap, cur, rfl, hB, hg, h1, h2, h3, h4⟩
  · exact ⟨none, 0, by rw [e], fun hne => absurd (List.eq_nil_of_length_eq_zero e) hne⟩
  · refine ⟨_, _, rfl, fun _ => ⟨g, rfl, hB, cur, hg, fun j u _ hu => ?_⟩⟩
    have hcell := World.ownsRow.cells h (g := g) rfl j u hu
    rw [add_off, Nat.zero_add, (show Blk w g 33 cur from hg).cell j] at hcell
    exact hcell
theorem between : ∀ (a b : L), lessL a b = true → lessL b (a ++ [0]) = false
  | [], [], h => by cases h
  | [], c :: b, h => by
    by_cases hc : c = 0
    · subst hc
      rw [List.nil_append, less_cons]
      cases b <;> rfl
    · have : (0 : UInt8) < c := by
        rcases UInt8.lt_or_lt_of_ne hc with h1 | h1
        · exact absurd h1 (by simp)
        · exact h1
      exact less_asymm (less_head this [] b)
  | x :: a, [], h => by cases h
  | x :: a, y :: b, h => by
    by_cases hxy : x = y
    · subst hxy
      rw [less_cons] at h
      rw [List.cons_append, less_cons]
      exact between a b h
    · rw [List.cons_append]
      rcases UInt8.lt_or_lt_of_ne hxy with h1 | h1
      · exact less_asymm (less_head h1 (a ++ [0]) b)
      · have := less_asymm (less_head h1 b a)
        rw [h] at this
        cases this
structure RgP (own : List Ent) (f fr to_ : L) (ix : List (L × L)) (bls : List (List (L × L))) : Prop where
  rng : ∀ a b, rangeP ix bls a b = own.filter (inP a b)
  bl : bls.length = ix.length
  fl : f.length ≤ 68719476736
  may : ∀ e ∈ own, mayL f e.key = true
/-- Of a key that the filter denies there are none. -/
theorem RgP.one {own : List Ent} {f fr to_ : L} {ix : List (L × L)} {bls : List (List (L × L))} (h : RgP own f fr to_ ix bls) (hm : mayL f fr = false) : (rangeP ix bls fr (fr ++ [0])).length = 0 := by
  rw [h.rng, List.length_eq_zero_iff, List.filter_eq_nil_iff]
  intro e he hp
  unfold inP keepP at hp
  simp only [Bool.and_eq_true, Bool.not_eq_true', Bool.or_eq_true, decide_eq_true_eq] at hp
  obtain ⟨h1, h2 | h2⟩ := hp
  · simp at h2
  · have : e.key = fr := by
      rcases less_total e.key fr with h3 | h3 | h3
      · rw [h3] at h1; cases h1
      · exact h3
      · exact absurd h2 (by
          have := between fr e.key h3
          rw [this]; decide)
    rw [← this, h.may e he] at hm
    cases hm
end Go.Proofs.YtfnlponoakhegaaDoor
