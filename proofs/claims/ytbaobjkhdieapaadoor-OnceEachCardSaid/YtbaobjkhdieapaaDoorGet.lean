/- The law's view: Get. -/
import Derived.Test.YtbaobjkhdieapaaDoorRef3
namespace Go.Proofs.YtbaobjkhdieapaaDoor
open Go.RowKit
set_option linter.unusedVariables false
set_option linter.unusedSimpArgs false

structure Op3 where
  key : ByteArray
  val : ByteArray
  gone : Bool
def opV (o : Op3) : List Value := [.string o.key, .string o.val, .bool o.gone]
def opsV (l : List Op3) : List Value := l.flatMap opV
theorem opsV_at : ∀ (l : List Op3) (k : Nat) (o : Op3), l[k]? = some o → (opsV l)[k * 3]? = some (.string o.key) ∧ (opsV l)[k * 3 + 1]? = some (.string o.val) ∧ (opsV l)[k * 3 + 2]? = some (.bool o.gone)
  | [], k, n, h => by simp at h
  | m :: ns, 0, n, h => by simp at h; subst h; simp [opsV, opV]
  | m :: ns, k + 1, n, h => by
    have ih := opsV_at ns k n (by simpa using h)
    rw [show (k + 1) * 3 = k * 3 + 3 from by omega]
    simpa [opsV, opV] using ih
theorem opsV_len (l : List Op3) : (opsV l).length = l.length * 3 := by
  induction l with
  | nil => rfl
  | cons o l ih => simp [opsV, opV] at ih ⊢; omega
/-- What a view tells of a key: its last row's. -/
def getL (l : List Op3) (key : ByteArray) : ByteArray × Bool := l.foldl (fun r o => if o.key = key then (o.val, !o.gone) else r) (⟨#[]⟩, false)
theorem getL_snoc (l : List Op3) (o : Op3) (key : ByteArray) : getL (l ++ [o]) key = if o.key = key then (o.val, !o.gone) else getL l key := by simp [getL]
theorem getL_nil (key : ByteArray) : getL [] key = (⟨#[]⟩, false) := rfl

theorem beq_same {a b : ByteArray} (h : a = b) : (a.toList == b.toList) = true := by subst h; simp
theorem beq_other {a b : ByteArray} (h : ¬ a = b) : (a.toList == b.toList) = false := by
  rw [beq_eq_false_iff_ne]
  intro e
  rw [ByteArray.toList_eq, ByteArray.toList_eq] at e
  exact h (ByteArray.ext (Array.toList_inj.1 e))
/-- A view at block b: its rows, and how often it was asked. -/
structure ShelfAt (w : World) (b : Nat) (A : Option Addr) (l : List Op3) (cap : Nat) (asked : Int) : Prop where
  box : w.heap[b]? = some (.cells #[.slice A l.length cap, .int .i64 asked] 30 (0, 0))
  rows : Reads w w.heap.size 3 A l.length (opsV l)
  apart : ∀ ad, A = some ad → ad.block ≠ b

theorem ShelfAt.below {w w' : World} {b : Nat} {A : Option Addr} {l : List Op3} {cap : Nat} {asked : Int} (h : ShelfAt w b A l cap asked) (hb : Below w.heap.size w w') : ShelfAt w' b A l cap asked :=
  ⟨(hb.block b (by
    rcases Nat.lt_or_ge b w.heap.size with h' | h'
    · exact h'
    · have := h.box; rw [Array.getElem?_eq_none h'] at this; cases this)).trans h.box, (h.rows.below hb).more hb.size, h.apart⟩

set_option maxRecDepth 100000 in
set_option maxHeartbeats 4000000 in
theorem Get_any (b : Nat) (A : Option Addr) (l : List Op3) (cap : Nat) (asked : Int) (key : ByteArray) (w : World) (h : ShelfAt w b A l cap asked) (hl : l.length ≤ 4294967296) (h0 : 0 ≤ asked) (h1 : asked ≤ 4611686018427387904) :
    Calls Tryd.prog 72 #[.pointer (some ⟨b, 0, none⟩), .string key] w fun e w' => e = .returned (.tuple #[.string (getL l key).1, .bool (getL l key).2]) ∧ Below w.heap.size (w.setCell ⟨b, 1, none⟩ (.int .i64 (asked + 1))) w' := by
  have c0 : w.cell? ⟨b, 0, none⟩ = some (.slice A l.length cap) := by simp [World.cell?, h.box]
  have c1 : w.cell? ⟨b, 1, none⟩ = some (.int .i64 asked) := by simp [World.cell?, h.box]
  have f1 : w.frozen? ⟨b, 1, none⟩ = false := by simp [World.frozen?, h.box]
  generalize hW : w.setCell ⟨b, 1, none⟩ (.int .i64 (asked + 1)) = W
  have C0 : W.cell? ⟨b, 0, none⟩ = some (.slice A l.length cap) := by rw [← hW]; simp [go_sem, c0]
  have hbl : b < w.heap.size := by
    rcases Nat.lt_or_ge b w.heap.size with h' | h'
    · exact h'
    · have := h.box; rw [Array.getElem?_eq_none h'] at this; cases this
  have hWs : W.heap.size = w.heap.size := by rw [← hW]; simp [World.setCell]
  have hR : ∀ ad, A = some ad → ∀ j u, (opsV l)[j]? = some u → W.cell? (ad.add j) = some u := by
    intro ad e j u hu
    have hn : 0 < l.length := by
      rcases Nat.eq_zero_or_pos l.length with h0 | h0
      · have := opsV_len l
        rw [h0] at this
        rw [List.getElem?_eq_none (by omega)] at hu
        cases hu
      · exact h0
    obtain ⟨ad', e', hb', hc'⟩ := h.rows.2 hn
    rw [e] at e'
    injection e' with e'
    subst e'
    rw [← hW, World.cell?_setCell_other]
    · exact hc' j u hu
    · intro e3
      have : (ad.add j).block = b := by rw [← e3]
      rw [block_of_add] at this
      exact h.apart ad e this
  have hbr := h.rows.2
  replace hW := Lib.hid hW
  clear h
  go_enter Tryd.func72, Tryd.ntmps72
  go_wp2
  rw [hW.out]
  go_loopw [6] (fun i wr => ∃ k : Nat, k ≤ l.length ∧ i = .int .i64 ((k : Int) - 1) ∧ getL (l.take k) key = getL l key ∧ wr = W) (fun i _ => (intOf i + 1).toNat)
  case atStart => exact ⟨l.length, Nat.le_refl _, rfl, by rw [List.take_length], rfl⟩
  case round =>
    obtain ⟨k, hk, rfl, hg, rfl⟩ := hrel
    cases k with
    | zero =>
      have hg' : getL l key = (⟨#[]⟩, false) := by rw [← hg]; rfl
      replace hg := Lib.hid hg
      go_wp2_with fail
      go_ret2
      exact ⟨by rw [hg']; rfl, Below.refl _ _⟩
    | succ k =>
      have hlt : k < l.length := by omega
      obtain ⟨ad, rfl, hab, _⟩ := hbr (by omega)
      have hn := List.getElem?_eq_getElem hlt
      obtain ⟨q0, q1, q2⟩ := opsV_at l k _ hn
      replace q0 := hR ad rfl _ _ q0
      replace q1 := hR ad rfl _ _ q1
      replace q2 := hR ad rfl _ _ q2
      rw [← add_of_add, add_pos] at q1 q2
      have hsn : l.take (k + 1) = l.take k ++ [l[k]] := List.take_succ_eq_append_getElem hlt
      rw [hsn, getL_snoc] at hg
      replace hsn := Lib.hid hsn
      replace hn := Lib.hid hn
      generalize l[k] = o at *
      by_cases hkey : o.key = key
      · rw [if_pos hkey] at hg
        have hB := beq_same hkey
        replace hg := Lib.hid hg
        replace hkey := Lib.hid hkey
        go_wp2_with fail
        go_region
        go_wp2_with fail
        go_ret2
        exact ⟨by rw [← hg.out]; rfl, (Below.refl _ _).drew⟩
      · rw [if_neg hkey] at hg
        have hB := beq_other hkey
        replace hg := Lib.hid hg
        replace hkey := Lib.hid hkey
        go_wp2_with fail
        exact ⟨⟨k, by omega, rfl, hg.out, trivial⟩, by simp [intOf]⟩
end Go.Proofs.YtbaobjkhdieapaaDoor
