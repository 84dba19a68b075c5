/- Contracts of the document's answers: rows, texts, keys. -/
import Derived.Test.YtbaobjkhdieapaaDoorRef1
import Derived.Test.YtbaobjkhdieapaaDoorQ
namespace Go.Proofs.YtbaobjkhdieapaaDoor
open Go.RowKit
set_option linter.unusedVariables false
set_option linter.unusedSimpArgs false

theorem rowL_len (n : Nat) (h : n < 18446744073709551616) : (rowL n).length ≤ 9 := by
  have := bytesL_len n 8 (by omega)
  unfold rowL
  split <;> simp
  omega

set_option maxRecDepth 100000 in
set_option maxHeartbeats 2000000 in
theorem Row_any (n : Int) (w : World) (h0 : 0 ≤ n) (h1 : n ≤ 18446744073709551615) :
    Calls Tryd.prog 20 #[.int .u64 n] w fun e w' => e = .returned (.string (bs (rowL n.toNat))) ∧ Below w.heap.size w w' := by
  have hlen := bytesL_len n.toNat 8 (by omega)
  by_cases hlo : n < 248
  · have hr : rowL n.toNat = [UInt8.ofNat n.toNat] := by unfold rowL; rw [if_pos (by omega)]
    replace hr := Lib.hid hr
    have hby : n = (((UInt8.ofNat n.toNat).toNat : Nat) : Int) := by have := byte_of0 n h0; omega
    replace hby := Lib.hid hby
    go_enter Tryd.func20, Tryd.ntmps20
    go_wp2_with fail
    rw [one_byte _ w.heap.size (UInt8.ofNat n.toNat) (by rw [← hby.out]; simp [go_sem])]
    simp only [Result.andThen]
    rw [Oper.upon_value]
    go_wp2_with fail
    go_ret
    exact ⟨by rw [hr.out]; rfl, (by repeat' first | (with_reducible exact Below.refl _ _) | (with_reducible refine Below.setCell ?_ ?_ _) | (with_reducible refine Below.alloc ?_ ?_ _) | (with_reducible refine Below.drew ?_) | (with_reducible refine Below.trans ?_ (Below.mono (by assumption) ?_)) | omega | (simp; done) | (simp; omega))⟩
  · have hr : rowL n.toNat = UInt8.ofNat (247 + (bytesL n.toNat).length) :: bytesL n.toNat := by unfold rowL; rw [if_neg (by omega)]
    replace hr := Lib.hid hr
    have hsz := bs_size (bytesL n.toNat)
    have q1 : (bs (bytesL n.toNat)).size ≤ 8 := by rw [hsz]; exact hlen
    have hby : (247 + (((bs (bytesL n.toNat)).size : Nat) : Int)) = (((UInt8.ofNat (247 + (bytesL n.toNat).length)).toNat : Nat) : Int) := by
      rw [hsz]; simp [UInt8.toNat_ofNat']; omega
    replace hby := Lib.hid hby
    replace hsz := Lib.hid hsz
    generalize UInt8.ofNat (247 + (bytesL n.toNat).length) = u at *
    have q2 : (bs [u]).size + (bs (bytesL n.toNat)).size ≤ 9223372036854775807 := by rw [bs_size [_]]; simp; omega
    go_enter Tryd.func20, Tryd.ntmps20
    go_wp2_with fail
    refine (bytesOf_any n _ h0 h1).mono ?_
    rintro e w1 ⟨rfl, hb1⟩
    have hz1 := hb1.size
    go_wp2_with fail
    rw [one_byte _ w1.heap.size u (by rw [← hby.out]; simp [go_sem])]
    simp only [Result.andThen]
    rw [Oper.upon_value]
    go_wp2_with fail
    go_ret
    refine ⟨?_, (by repeat' first | (with_reducible exact Below.refl _ _) | (with_reducible refine Below.setCell ?_ ?_ _) | (with_reducible refine Below.alloc ?_ ?_ _) | (with_reducible refine Below.drew ?_) | (with_reducible refine Below.trans ?_ (Below.mono (by assumption) ?_)) | omega | (simp; done) | (simp; omega))⟩
    rw [hr.out, bs_append]
    rfl

set_option maxRecDepth 100000 in
set_option maxHeartbeats 2000000 in
theorem RNum_any (n : Int) (w : World) :
    Calls Tryd.prog 18 #[.int .u64 n] w fun e w' => e = .returned (.agg #[.bool false, .string ⟨#[]⟩, .int .u64 n]) ∧ Below w.heap.size w w' := by
  go_enter Tryd.func18, Tryd.ntmps18
  go_wp2
  exact bodyPost_ret (v := .agg #[.bool false, .string ⟨#[]⟩, .int .u64 n]) (by simp [results, Tryd.results18, go_sem]) rfl ⟨rfl, (by repeat' first | (with_reducible exact Below.refl _ _) | (with_reducible refine Below.setCell ?_ ?_ _) | (with_reducible refine Below.alloc ?_ ?_ _) | (with_reducible refine Below.drew ?_) | (with_reducible refine Below.trans ?_ (Below.mono (by assumption) ?_)) | omega | (simp; done) | (simp; omega))⟩

set_option maxRecDepth 100000 in
set_option maxHeartbeats 2000000 in
theorem One_any (n : Int) (w : World) (h0 : 0 ≤ n) (h1 : n ≤ 18446744073709551615) :
    Calls Tryd.prog 26 #[.agg #[.bool false, .string ⟨#[]⟩, .int .u64 n]] w fun e w' => e = .returned (.string (bs (1 :: rowL n.toNat))) ∧ Below w.heap.size w w' := by
  have hl := rowL_len n.toNat (by omega)
  have q1 : 1 + (bs (rowL n.toNat)).size ≤ 9223372036854775807 := by rw [bs_size]; omega
  go_enter Tryd.func26, Tryd.ntmps26
  go_wp2_with fail
  refine (Row_any n _ h0 h1).mono ?_
  rintro e w1 ⟨rfl, hb1⟩
  go_wp2_with fail
  go_ret
  exact ⟨rfl, (by repeat' first | (with_reducible exact Below.refl _ _) | (with_reducible refine Below.setCell ?_ ?_ _) | (with_reducible refine Below.alloc ?_ ?_ _) | (with_reducible refine Below.drew ?_) | (with_reducible refine Below.trans ?_ (Below.mono (by assumption) ?_)) | omega | (simp; done) | (simp; omega))⟩

def rkeyL : List Nat → List UInt8
  | [] => []
  | n :: ns => 1 :: rowL n ++ rkeyL ns
theorem rkeyL_snoc (a : List Nat) (n : Nat) : rkeyL (a ++ [n]) = rkeyL a ++ (1 :: rowL n) := by
  induction a with
  | nil => simp [rkeyL]
  | cons x a ih => simp [rkeyL, ih]
theorem rkeyL_len : ∀ a : List Nat, (∀ n ∈ a, n < 18446744073709551616) → (rkeyL a).length ≤ 10 * a.length
  | [], _ => by simp [rkeyL]
  | n :: a, h => by have := rowL_len n (h n (by simp)); have := rkeyL_len a (fun m hm => h m (by simp [hm])); simp [rkeyL]; omega

set_option maxRecDepth 100000 in
set_option maxHeartbeats 2000000 in
theorem RKey_any (A : Option Addr) (ns : List Int) (cap : Nat) (w : World) (hr : Reads w w.heap.size 3 A ns.length (partsV ns)) (hns : ∀ n ∈ ns, U64 n) (hlen : ns.length ≤ 4294967296) :
    Calls Tryd.prog 17 #[.slice A ns.length cap] w fun e w' => e = .returned (.string (bs (rkeyL (ns.map Int.toNat)))) ∧ Below w.heap.size w w' := by
  go_enter Tryd.func17, Tryd.ntmps17
  go_wp2
  go_loopw [3, 4] (fun s i wr => ∃ (k : Nat), k ≤ ns.length ∧ i = .int .i64 k ∧ s = .string (bs (rkeyL ((ns.take k).map Int.toNat))) ∧ Below w.heap.size w wr) (fun _ i _ => ns.length - (intOf i).toNat)
  case atStart => exact ⟨0, Nat.zero_le _, rfl, rfl, Below.refl _ _⟩
  case round =>
    obtain ⟨k, hk, rfl, rfl, hb0⟩ := hrel
    by_cases hlt : k < ns.length
    · obtain ⟨ad, rfl, hab, hcell⟩ := (hr.below hb0).2 (by omega)
      have hn := List.getElem?_eq_getElem hlt
      obtain ⟨q0, q1, q2⟩ := partsV_at ns k _ hn
      obtain ⟨n0, n1⟩ := hns _ (List.getElem_mem hlt)
      replace q0 := hcell _ _ q0
      replace q1 := hcell _ _ q1
      replace q2 := hcell _ _ q2
      rw [← add_of_add, add_pos] at q1 q2
      have hll := rkeyL_len ((ns.take k).map Int.toNat) (fun m hm => by
        simp only [List.mem_map] at hm
        obtain ⟨x, hx, rfl⟩ := hm
        have := hns x (List.mem_of_mem_take hx)
        unfold U64 at this
        omega)
      rw [List.length_map, List.length_take] at hll
      have hsn : rkeyL ((ns.take (k + 1)).map Int.toNat) = rkeyL ((ns.take k).map Int.toNat) ++ (1 :: rowL ns[k].toNat) := by
        rw [List.take_succ_eq_append_getElem hlt, List.map_append, List.map_cons, List.map_nil, rkeyL_snoc]
      replace hsn := Lib.hid hsn
      generalize ns[k] = n at *
      replace hn := Lib.hid hn
      generalize rkeyL ((ns.take k).map Int.toNat) = L at *
      have hz := hb0.size
      have hrl := rowL_len n.toNat (by omega)
      have q5 : (bs L).size + (bs (1 :: rowL n.toNat)).size ≤ 9223372036854775807 := by rw [bs_size, bs_size, List.length_cons]; omega
      clear hcell
      go_wp2_with fail
      refine (One_any n _ n0 n1).mono ?_
      rintro e w1 ⟨rfl, hb1⟩
      go_wp2_with fail
      refine ⟨⟨k + 1, by omega, by go_num, ?_, hb0.trans (hb1.mono hz)⟩, by simp [intOf]; omega⟩
      rw [hsn.out, bs_append]
    · obtain rfl : k = ns.length := by omega
      go_wp2_with fail
      go_ret
      exact ⟨by simp, hb0⟩
end Go.Proofs.YtbaobjkhdieapaaDoor
