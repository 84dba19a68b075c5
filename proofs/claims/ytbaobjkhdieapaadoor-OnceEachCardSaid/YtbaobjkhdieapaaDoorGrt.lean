/- The law's Great. -/
import Derived.Test.YtbaobjkhdieapaaDoorRef5
namespace Go.Proofs.YtbaobjkhdieapaaDoor
open Go.RowKit
set_option linter.unusedVariables false
set_option linter.unusedSimpArgs false

structure Act4 where
  c : Nat
  n : Nat
  a : ByteArray
  g : Bool
def actV (x : Act4) : List Value := [.int .u8 x.c, .int .u64 x.n, .string x.a, .bool x.g]
def actsV (l : List Act4) : List Value := l.flatMap actV
theorem actsV_at : ∀ (l : List Act4) (k : Nat) (x : Act4), l[k]? = some x → (actsV l)[k * 4]? = some (.int .u8 x.c) ∧ (actsV l)[k * 4 + 1]? = some (.int .u64 x.n) ∧ (actsV l)[k * 4 + 2]? = some (.string x.a) ∧ (actsV l)[k * 4 + 3]? = some (.bool x.g)
  | [], k, n, h => by simp at h
  | m :: ns, 0, n, h => by simp at h; subst h; simp [actsV, actV]
  | m :: ns, k + 1, n, h => by
    have ih := actsV_at ns k n (by simpa using h)
    rw [show (k + 1) * 4 = k * 4 + 4 from by omega]
    simpa [actsV, actV] using ih
theorem add_pos' (ad : Addr) (m i : Nat) : ad.add (m + (i + 1)) = ⟨(ad.add m).block, (ad.add m).off + (i + 1), none⟩ := by rw [← add_of_add, add_pos]

def GrtP (l : List Act4) (w : World) (e : Ending) (w' : World) : Prop := ∃ g : Bool, e = .returned (.bool g) ∧ w' = w ∧ (g = false → l.length ≤ 120 ∧ ∀ x ∈ l, x.a.size ≤ 8000)

set_option maxRecDepth 100000 in
set_option maxHeartbeats 4000000 in
theorem Great_any (A : Option Addr) (l : List Act4) (cap : Nat) (w : World) (hr : Reads w w.heap.size 4 A l.length (actsV l)) (hlen : l.length ≤ 9223372036854775807) (hx : ∀ x ∈ l, x.a.size ≤ 9223372036854775807) :
    Calls Tryd.prog 11 #[.slice A l.length cap] w fun e w' => GrtP l w e w' := by
  by_cases hbig : 120 < l.length
  · have hb' : (120 : Int) < l.length := by omega
    go_enter Tryd.func11, Tryd.ntmps11
    go_wp2
    go_ret
    exact ⟨true, rfl, rfl, fun h => by cases h⟩
  · have hb' : ¬ (120 : Int) < l.length := by omega
    go_enter Tryd.func11, Tryd.ntmps11
    go_wp2
    go_loopw [3, 4] (fun n i wr => ∃ k s : Nat, k ≤ l.length ∧ n = .int .i64 s ∧ i = .int .i64 k ∧ s ≤ k * 8000 ∧ (∀ x ∈ l.take k, x.a.size ≤ 8000) ∧ wr = w) (fun _ i _ => l.length - (intOf i).toNat)
    case atStart => exact ⟨0, 0, Nat.zero_le _, rfl, rfl, by omega, by simp, rfl⟩
    case round =>
      obtain ⟨k, s, hk, rfl, rfl, hs, ha, rfl⟩ := hrel
      by_cases hlt : k < l.length
      · obtain ⟨ad, rfl, hab, hcell⟩ := hr.2 (by omega)
        have hx1 := List.getElem?_eq_getElem hlt
        obtain ⟨q0, q1, q2, q3⟩ := actsV_at l k _ hx1
        replace q2 := hcell _ _ q2
        rw [add_pos'] at q2
        have b1 := hx _ (List.getElem_mem hlt)
        have hsn : l.take (k + 1) = l.take k ++ [l[k]] := List.take_succ_eq_append_getElem hlt
        replace hx1 := Lib.hid hx1
        generalize l[k] = o at *
        clear hcell q0 q1 q3
        replace hsn := Lib.hid hsn
        by_cases h8 : 8000 < o.a.size
        · have h8' : (8000 : Int) < o.a.size := by omega
          go_wp2_with fail
          go_ret
          exact ⟨true, rfl, rfl, fun h => by cases h⟩
        · have h8' : ¬ (8000 : Int) < o.a.size := by omega
          go_wp2_with fail
          refine ⟨⟨k + 1, s + o.a.size, by omega, by go_num, by go_num, by omega, fun x hx => ?_, trivial⟩, by simp [intOf]; omega⟩
          rw [hsn.out] at hx
          simp at hx
          rcases hx with hx | rfl
          · exact ha x hx
          · omega
      · obtain rfl : k = l.length := by omega
        rw [List.take_length] at ha
        by_cases h8 : (8000 : Int) < s
        · go_wp2_with fail
          go_ret
          exact ⟨true, by simp [h8], rfl, fun h => by cases h⟩
        · go_wp2_with fail
          go_ret
          exact ⟨false, by simp [h8], rfl, fun h => ⟨by omega, ha⟩⟩
end Go.Proofs.YtbaobjkhdieapaaDoor
