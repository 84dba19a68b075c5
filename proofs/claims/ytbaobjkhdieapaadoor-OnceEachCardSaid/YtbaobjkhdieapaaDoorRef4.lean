/- The document's list of last answers: Ask, Keep. -/
import Derived.Test.YtbaobjkhdieapaaDoorAwk
namespace Go.Proofs.YtbaobjkhdieapaaDoor
open Go.RowKit
set_option linter.unusedVariables false
set_option linter.unusedSimpArgs false

structure Last3 where
  c : Nat
  n : Nat
  a : ByteArray
def lastV (o : Last3) : List Value := [.int .u8 o.c, .int .u64 o.n, .string o.a]
def lastsV (l : List Last3) : List Value := l.flatMap lastV
theorem lastsV_at : ∀ (l : List Last3) (k : Nat) (o : Last3), l[k]? = some o → (lastsV l)[k * 3]? = some (.int .u8 o.c) ∧ (lastsV l)[k * 3 + 1]? = some (.int .u64 o.n) ∧ (lastsV l)[k * 3 + 2]? = some (.string o.a)
  | [], k, n, h => by simp at h
  | m :: ns, 0, n, h => by simp at h; subst h; simp [lastsV, lastV]
  | m :: ns, k + 1, n, h => by
    have ih := lastsV_at ns k n (by simpa using h)
    rw [show (k + 1) * 3 = k * 3 + 3 from by omega]
    simpa [lastsV, lastV] using ih
theorem lastsV_append (a b : List Last3) : lastsV (a ++ b) = lastsV a ++ lastsV b := by simp [lastsV]
theorem lastsV_one (o : Last3) : lastsV [o] = [.int .u8 o.c, .int .u64 o.n, .string o.a] := by simp [lastsV, lastV]
def rAskL : List Last3 → Nat → Nat → ByteArray × Bool × Int
  | [], _, _ => (⟨#[]⟩, false, 0)
  | o :: l, c, n => if o.c = c then (if n = o.n then (o.a, true, 0) else if n < o.n then (⟨#[]⟩, false, 27) else rAskL l c n) else rAskL l c n
theorem rAskL_drop (l : List Last3) (k : Nat) (o : Last3) (h : l[k]? = some o) (c n : Nat) : rAskL (l.drop k) c n = if o.c = c then (if n = o.n then (o.a, true, 0) else if n < o.n then (⟨#[]⟩, false, 27) else rAskL (l.drop (k + 1)) c n) else rAskL (l.drop (k + 1)) c n := by
  obtain ⟨hk, rfl⟩ := List.getElem?_eq_some_iff.1 h
  rw [List.drop_eq_getElem_cons hk]
  rfl

set_option maxRecDepth 100000 in
set_option maxHeartbeats 4000000 in
theorem RAsk_any (A : Option Addr) (l : List Last3) (cap c n : Nat) (w : World) (hr : Reads w w.heap.size 3 A l.length (lastsV l)) (hlen : l.length ≤ 4294967296) (hc : c ≤ 255) (hn : (n : Int) ≤ 18446744073709551615) (hl : ∀ o ∈ l, o.c ≤ 255 ∧ (o.n : Int) ≤ 18446744073709551615) :
    Calls Tryd.prog 12 #[.slice A l.length cap, .int .u8 c, .int .u64 n] w fun e w' => e = .returned (.tuple #[.string (rAskL l c n).1, .bool (rAskL l c n).2.1, .int .i64 (rAskL l c n).2.2]) ∧ w' = w := by
  go_enter Tryd.func12, Tryd.ntmps12
  go_wp2
  go_loopw [9] (fun i wr => ∃ k : Nat, k ≤ l.length ∧ i = .int .i64 k ∧ rAskL (l.drop k) c n = rAskL l c n ∧ wr = w) (fun i _ => l.length - (intOf i).toNat)
  case atStart => exact ⟨0, Nat.zero_le _, rfl, rfl, rfl⟩
  case round =>
    obtain ⟨k, hk, rfl, hg, rfl⟩ := hrel
    by_cases hlt : k < l.length
    · obtain ⟨ad, rfl, hab, hcell⟩ := hr.2 (by omega)
      have hx := List.getElem?_eq_getElem hlt
      obtain ⟨q0, q1, q2⟩ := lastsV_at l k _ hx
      replace q0 := hcell _ _ q0
      replace q1 := hcell _ _ q1
      replace q2 := hcell _ _ q2
      rw [← add_of_add, add_pos] at q1 q2
      obtain ⟨b1, b2⟩ := hl _ (List.getElem_mem hlt)
      rw [rAskL_drop l k _ hx] at hg
      replace hx := Lib.hid hx
      generalize l[k] = o at *
      clear hcell
      by_cases h1 : o.c = c
      · rw [if_pos h1] at hg
        have h1' : (o.c : Int) = c := by omega
        by_cases h2 : n = o.n
        · rw [if_pos h2] at hg
          have h2' : (n : Int) = o.n := by omega
          replace hg := Lib.hid hg
          replace h1 := Lib.hid h1
          replace h2 := Lib.hid h2
          replace h2' := Lib.hid h2'
          have d1 : ((n : Int) == (o.n : Int)) = true := by rw [h2'.out]; simp
          replace h1' := Lib.hid h1'
          have d2 : ((o.c : Int) != (c : Int)) = false := by rw [h1'.out]; simp
          have d3 : ¬ (¬ (o.c : Int) = (c : Int)) := by rw [h1'.out]; simp
          have d4 : (n : Int) = (o.n : Int) := h2'.out
          go_wp2_with fail
          go_ret3
          exact ⟨by rw [← hg.out]; rfl, rfl⟩
        · rw [if_neg h2] at hg
          have h2' : ¬ (n : Int) = o.n := by omega
          by_cases h3 : n < o.n
          · rw [if_pos h3] at hg
            have h3' : (n : Int) < o.n := by omega
            replace hg := Lib.hid hg
            replace h1 := Lib.hid h1
            go_wp2_with fail
            go_ret3
            exact ⟨by rw [← hg.out]; rfl, rfl⟩
          · rw [if_neg h3] at hg
            have h3' : ¬ (n : Int) < o.n := by omega
            replace hg := Lib.hid hg
            replace h1 := Lib.hid h1
            go_wp2_with fail
            exact ⟨⟨k + 1, by omega, by go_num, hg.out, trivial⟩, by simp [intOf]; omega⟩
      · rw [if_neg h1] at hg
        have h1' : ¬ (o.c : Int) = c := by omega
        replace hg := Lib.hid hg
        replace h1 := Lib.hid h1
        go_wp2_with fail
        exact ⟨⟨k + 1, by omega, by go_num, hg.out, trivial⟩, by simp [intOf]; omega⟩
    · obtain rfl : k = l.length := by omega
      rw [List.drop_length] at hg
      replace hg := Lib.hid hg
      go_wp2_with fail
      go_ret3
      exact ⟨by rw [← hg.out]; rfl, rfl⟩
end Go.Proofs.YtbaobjkhdieapaaDoor
