/- Contracts of package okey: Key of numbers. -/
import Derived.Test.YtbaobjkhdieapaaDoorBld
namespace Go.Proofs.YtbaobjkhdieapaaDoor
open Go.RowKit
set_option linter.unusedVariables false
set_option linter.unusedSimpArgs false

theorem own_below {w w' : World} {B : Nat} {e : TypeId} {v : Value} {n : Nat} {xs : List Value} (h : w.ownsRow B e 1 v n xs) (hb : Below w.heap.size w w') : w'.ownsRow B e 1 v n xs := by
  refine ⟨h.1, h.2.imp id ?_⟩
  rintro ⟨g, cap, cur, hv, h1, hg, rest⟩
  refine ⟨g, cap, cur, hv, h1, ?_, rest⟩
  rw [hb.block g (by
    rcases Nat.lt_or_ge g w.heap.size with h' | h'
    · exact h'
    · rw [Array.getElem?_eq_none h'] at hg; cases hg)]
  exact hg
def IsB (B b : Nat) (l : List UInt8) (w : World) : Prop := Lib.IsBuilder 80 5 B b (Lib.byteCells l) w
theorem at_below {w w' : World} {B b : Nat} {p : Value} {xs : List Value} (h : Lib.BuilderAt 80 5 B b p xs w) (hb : Below w.heap.size w w') : Lib.BuilderAt 80 5 B b p xs w' := by
  have hlt := h.lt
  obtain ⟨hB, v, hbk, hown, hne⟩ := h
  exact ⟨hB, v, (hb.block b hlt).trans hbk, own_below hown hb, hne⟩
theorem IsB.below {w w' : World} {B b : Nat} {l : List UInt8} (h : IsB B b l w) (hb : Below w.heap.size w w') : IsB B b l w' := h.imp (fun h => at_below h hb) (fun h => at_below h hb)
theorem IsB.new (w : World) : IsB w.heap.size w.heap.size [] (w.alloc (.cells #[.pointer none, .slice none 0 0] 80)) :=
  .inl ⟨Nat.le_refl _, _, heap_alloc_new w _, World.ownsRow_nil _ _ _ 1, by simp [Value.ownBlock]⟩
theorem IsB.drew {w : World} {B b : Nat} {l : List UInt8} (h : IsB B b l w) : IsB B b l w.drew := h.below ((Below.refl _ _).drew)
theorem IsB.lt {w : World} {B b : Nat} {l : List UInt8} (h : IsB B b l w) : b < w.heap.size := h.elim (·.lt) (·.lt)
theorem write_any (B b : Nat) (l : List UInt8) (s : ByteArray) (w : World) (h : IsB B b l w) (hlen : l.length + s.size ≤ 140737488355328) (hBw : B ≤ w.heap.size) :
    Calls Tryd.prog 31 #[.pointer (some ⟨b, 0, none⟩), .string s] w fun e w' => e = .returned (.tuple #[.int .i64 s.size, .nilIface]) ∧ (IsB B b (l ++ s.data.toList) w' ∧ Below B w w') := by
  refine (WriteString_any B b _ s w h (by rw [Lib.byteCells_length]; exact hlen) hBw).mono ?_
  rintro e w' ⟨he, h1, hb⟩
  refine ⟨he, .inr ?_, hb⟩
  rw [Lib.byteCells_append]
  exact h1

/-- Var of one number, whose slice was just made. -/
theorem Var_one (b : Nat) (n : Int) (w : World) (hb : b < w.heap.size) (hc : w.cell? ⟨b, 0, none⟩ = some (.int .u64 n)) (h0 : 0 ≤ n) (h1 : n ≤ 18446744073709551615) :
    Calls Tryd.prog 22 #[.slice (some ⟨b, 0, none⟩) 1 1] w fun e w' => e = .returned (.string (bs (varL1 n.toNat))) ∧ Below w.heap.size w w' := by
  have h := Var_any (some ⟨b, 0, none⟩) [n] 1 w ⟨rfl, fun _ => ⟨_, rfl, hb, fun j u hu => by
    cases j with
    | zero =>
      simp at hu
      subst hu
      exact hc
    | succ j => simp at hu⟩⟩ (fun m hm => by simp at hm; subst hm; exact ⟨h0, h1⟩) (by simp)
  simpa [varL_one, bs] using h

def keyL : List Nat → List UInt8
  | [] => []
  | n :: ns => 1 :: varL1 n ++ keyL ns
theorem keyL_snoc (a : List Nat) (n : Nat) : keyL (a ++ [n]) = keyL a ++ (1 :: varL1 n) := by
  induction a with
  | nil => simp [keyL]
  | cons x a ih => simp [keyL, ih]
theorem keyL_len : ∀ a : List Nat, (keyL a).length ≤ 10 * a.length
  | [] => by simp [keyL]
  | n :: a => by have := varL1_len n; have := keyL_len a; simp [keyL]; omega
def partsV (ns : List Int) : List Value := ns.flatMap fun n => [.bool false, .string ⟨#[]⟩, .int .u64 n]
theorem partsV_at : ∀ (ns : List Int) (k : Nat) (n : Int), ns[k]? = some n → (partsV ns)[k * 3]? = some (.bool false) ∧ (partsV ns)[k * 3 + 1]? = some (.string ⟨#[]⟩) ∧ (partsV ns)[k * 3 + 2]? = some (.int .u64 n)
  | [], k, n, h => by simp at h
  | m :: ns, 0, n, h => by simp at h; subst h; simp [partsV]
  | m :: ns, k + 1, n, h => by
    have ih := partsV_at ns k n (by simpa using h)
    rw [show (k + 1) * 3 = k * 3 + 3 from by omega]
    simpa [partsV] using ih

theorem add_pos (a : Addr) (i : Nat) : a.add (i + 1) = ⟨a.block, a.off + (i + 1), none⟩ := by simp [Addr.add]

set_option maxRecDepth 100000 in
set_option maxHeartbeats 2000000 in
theorem Key_any (A : Option Addr) (ns : List Int) (cap : Nat) (w : World) (hr : Reads w w.heap.size 3 A ns.length (partsV ns)) (hns : ∀ n ∈ ns, U64 n) (hlen : ns.length ≤ 4294967296) :
    Calls Tryd.prog 24 #[.slice A ns.length cap] w fun e w' => e = .returned (.string (bs (keyL (ns.map Int.toNat)))) ∧ Below w.heap.size w w' := by
  go_enter Tryd.func24, Tryd.ntmps24
  go_wp2
  go_loopw [8] (fun i wr => ∃ (k : Nat), k ≤ ns.length ∧ i = .int .i64 k ∧ IsB w.heap.size w.heap.size (keyL ((ns.take k).map Int.toNat)) wr ∧ Below w.heap.size w wr) (fun i _ => ns.length - (intOf i).toNat)
  case atStart => exact ⟨0, Nat.zero_le _, rfl, IsB.new w, (Below.refl _ _).alloc (Nat.le_refl _) _⟩
  case round =>
    obtain ⟨k, hk, rfl, ho, hb0⟩ := hrel
    by_cases hlt : k < ns.length
    · obtain ⟨ad, rfl, hab, hcell⟩ := (hr.below hb0).2 (by omega)
      have hn := List.getElem?_eq_getElem hlt
      obtain ⟨q0, q1, q2⟩ := partsV_at ns k _ hn
      obtain ⟨n0, n1⟩ := hns _ (List.getElem_mem hlt)
      replace q0 := hcell _ _ q0
      replace q1 := hcell _ _ q1
      replace q2 := hcell _ _ q2
      rw [← add_of_add, add_pos] at q1 q2
      have hll := keyL_len ((ns.take k).map Int.toNat)
      rw [List.length_map, List.length_take] at hll
      have hsn : keyL ((ns.take (k + 1)).map Int.toNat) = keyL ((ns.take k).map Int.toNat) ++ (1 :: varL1 ns[k].toNat) := by
        rw [List.take_succ_eq_append_getElem hlt, List.map_append, List.map_cons, List.map_nil, keyL_snoc]
      replace hsn := Lib.hid hsn
      generalize ns[k] = n at *
      replace hn := Lib.hid hn
      generalize keyL ((ns.take k).map Int.toNat) = L at *
      have hz := hb0.size
      have hbl := ho.lt
      clear hcell
      go_wp2_with fail
      refine (Var_one _ n _ (by simp) (by simp [go_sem]) n0 n1).mono ?_
      rintro e w1 ⟨rfl, hb1⟩
      have ho1 : IsB w.heap.size w.heap.size L w1 := ho.below (((Below.refl _ _).alloc (Nat.le_refl _) _ |>.alloc (by simp) _).trans (hb1.mono (by simp; omega)))
      have hz1 := hb1.size
      simp at hz1
      have hvl := varL1_len n.toNat
      have q3 : 1 + (bs (varL1 n.toNat)).size ≤ 9223372036854775807 := by rw [bs_size]; omega
      go_wp2_with fail
      have q4 : (({ data := #[1] } : ByteArray) ++ bs (varL1 n.toNat)).size = 1 + (varL1 n.toNat).length := by rw [ByteArray.size_append, bs_size]; rfl
      refine (write_any w.heap.size w.heap.size L _ _ ho1 (by rw [q4]; omega) (by omega)).mono ?_
      rintro e w2 ⟨rfl, ho2, hb2⟩
      go_wp2_with fail
      refine ⟨⟨k + 1, by omega, by go_num, ?_, ?_⟩, by simp [intOf]; omega⟩
      · rw [hsn.out]
        simpa [bs] using ho2
      · exact ((((hb0.alloc (by omega) _).alloc (by simp; omega) _).trans (hb1.mono (by simp; omega))).trans hb2)
    · obtain rfl : k = ns.length := by omega
      go_wp2_with fail
      refine (Tryd.Builder_String_any w.heap.size w.heap.size _ _ ho hb0.size).mono ?_
      rintro e w1 ⟨rfl, hb1⟩
      go_wp2_with fail
      go_ret
      exact ⟨by simp [bs], hb0.trans hb1⟩
end Go.Proofs.YtbaobjkhdieapaaDoor
