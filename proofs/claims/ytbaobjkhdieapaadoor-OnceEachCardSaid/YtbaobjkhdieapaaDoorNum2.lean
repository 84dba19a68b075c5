/- Contracts of package num: Text. -/
import Derived.Test.YtbaobjkhdieapaaDoorNum1
namespace Go.Proofs.YtbaobjkhdieapaaDoor
open Go.RowKit
set_option linter.unusedVariables false
set_option linter.unusedSimpArgs false

/-- A text of these bytes. -/
def bs (l : List UInt8) : ByteArray := ⟨l.toArray⟩
theorem bs_append (a b : List UInt8) : bs a ++ bs b = bs (a ++ b) := by
  unfold bs
  apply ByteArray.ext
  simp
theorem bs_of (s : ByteArray) : bs s.data.toList = s := by unfold bs; cases s; simp
theorem bs_size (l : List UInt8) : (bs l).size = l.length := by simp [bs, ByteArray.size]
theorem dlen (s : ByteArray) : s.data.toList.length = s.size := (Lib.size_eq s).symm
theorem bs_data (l : List UInt8) : (bs l).data.toList = l := by simp [bs]
def sumL (ss : List ByteArray) : Nat := (ss.map fun s => s.size + 9).sum

theorem new_u64 (w : World) (X : Int) (t : TypeId) : Reads (w.alloc (.cells #[.int .u64 X] t)) (w.heap.size + 1) 1 (some ⟨w.heap.size, 0, none⟩) 1 [.int .u64 X] := by
  refine ⟨rfl, fun _ => ⟨_, rfl, by simp, fun j u hu => ?_⟩⟩
  cases j with
  | zero =>
    simp at hu
    subst hu
    simp only [Addr.add, if_true]
    rw [World.cell?_alloc_new]
    rfl
  | succ j => simp at hu
theorem textL_snoc (a : List (List UInt8)) (s : List UInt8) : textL (a ++ [s]) = textL a ++ (varL1 s.length ++ s) := by
  induction a with
  | nil => simp [textL]
  | cons x a ih => simp [textL, ih]

theorem textL_take (a : List (List UInt8)) (k : Nat) : (textL (a.take k)).length ≤ (textL a).length := by
  induction a generalizing k with
  | nil => simp
  | cons x a ih =>
    cases k with
    | zero => simp [textL]
    | succ k => have := ih k; simp [textL]; omega
theorem varL_one (n : Nat) : varL [n] = varL1 n := by simp [varL]

set_option maxRecDepth 100000 in
set_option maxHeartbeats 2000000 in
theorem Text_any (A : Option Addr) (ss : List ByteArray) (cap : Nat) (w : World) (hr : Reads w w.heap.size 1 A ss.length (ss.map Value.string)) (hlen : ss.length ≤ 4294967296) (hsz : (textL (ss.map fun s => s.data.toList)).length ≤ 4611686018427387904) :
    Calls Tryd.prog 23 #[.slice A ss.length cap] w fun e w' => e = .returned (.string (bs (textL (ss.map fun s => s.data.toList)))) ∧ Below w.heap.size w w' := by
  go_enter Tryd.func23, Tryd.ntmps23
  go_wp2
  go_loopw [3, 8] (fun b i wr => ∃ (k : Nat), k ≤ ss.length ∧ i = .int .i64 k ∧ b = .string (bs (textL ((ss.take k).map fun s => s.data.toList))) ∧ Below w.heap.size w wr) (fun _ i _ => ss.length - (intOf i).toNat)
  case atStart => exact ⟨0, Nat.zero_le _, rfl, rfl, Below.refl _ _⟩
  case round =>
    obtain ⟨k, hk, rfl, rfl, hb0⟩ := hrel
    by_cases hlt : k < ss.length
    · obtain ⟨ad, v, rfl, hab, hx, hc⟩ := (hr.below hb0).at_ hlt
      obtain ⟨s, hn, rfl⟩ : ∃ n, ss[k]? = some n ∧ v = .string n := by
        simp at hx
        obtain ⟨n, h1, rfl⟩ := hx
        exact ⟨n, h1, rfl⟩
      clear hx
      have hz := hb0.size
      have hsn : textL ((ss.take (k + 1)).map fun s => s.data.toList) = textL ((ss.take k).map fun s => s.data.toList) ++ (varL1 s.size ++ s.data.toList) := by
        rw [List.take_succ_eq_append_getElem hlt, List.map_append, List.map_cons, List.map_nil, textL_snoc, show ss[k] = s from by have := List.getElem?_eq_getElem hlt; rw [this] at hn; simpa using hn]
        rw [dlen s]
      have htk := textL_take (ss.map fun s => s.data.toList) (k + 1)
      rw [← List.map_take, hsn] at htk
      simp only [List.length_append] at htk
      rw [dlen s] at htk
      replace hn := Lib.hid hn
      replace hsn := Lib.hid hsn
      generalize hL : textL ((ss.take k).map fun s => s.data.toList) = L at *
      replace hL := Lib.hid hL
      have hv1 := varL_one s.size
      have q1 : (varL [s.size]).length + s.size ≤ 9223372036854775807 := by rw [hv1]; omega
      have q2 : (bs L).size + ((varL [s.size]).length + s.size) ≤ 9223372036854775807 := by rw [hv1, bs_size]; omega
      replace hv1 := Lib.hid hv1
      have hs : s.size ≤ 4611686018427387904 := by omega
      clear htk hsz
      go_wp2_with fail
      refine (Var_any _ [(s.size : Int)] _ _ ?_ ?_ (by simp)).mono ?_
      · simpa using new_u64 wr s.size 26
      · intro n hn; simp at hn; subst hn; exact ⟨by omega, by omega⟩
      rintro e w1 ⟨rfl, hb1⟩
      have hb2 := hb1.mono (B' := w.heap.size) (by simp; omega)
      go_wp2_with fail
      refine ⟨⟨k + 1, by omega, by go_num, ?_, (hb0.alloc hz _).trans hb2⟩, by simp [intOf]; omega⟩
      have e : bs L ++ ({ data := (varL [s.size]).toArray } ++ s) = bs (textL ((ss.take (k + 1)).map fun s => s.data.toList)) := by
        rw [hsn.out, hv1.out, ← bs_append, ← bs_append, bs_of]
        rfl
      exact congrArg Value.string e
    · obtain rfl : k = ss.length := by omega
      go_wp2_with fail
      go_ret
      exact ⟨by simp, hb0⟩
end Go.Proofs.YtbaobjkhdieapaaDoor
