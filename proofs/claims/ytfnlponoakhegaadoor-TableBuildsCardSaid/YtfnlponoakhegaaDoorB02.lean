/- Contracts: table: Internal, big, entry. The document's numbers: bytesOf, Row, Big (turned from chapter 27's texts). block.Builder: Add. block.Builder: Add, the walk. block.Builder: Count, Size, Finish. -/
import Derived.Test.YtfnlponoakhegaaDoorB01
import Derived.Test.YtfnlponoakhegaaDoorB00
namespace Go.Proofs.YtfnlponoakhegaaDoor
open Go.RowKit
set_option linter.unusedVariables false
set_option linter.unusedSimpArgs false
set_option maxRecDepth 100000 in
set_option maxHeartbeats 4000000 in
theorem big_any (n : Nat) (w : World) (hn : n < 4294967296) :
    Calls Tryd.prog 29 #[.int .i64 (n : Nat)] w fun e w' => e = .returned (.string (bs (bigL n 4))) ∧ Below w.heap.size w w' := by
  have hw1 : IntKind.u64.wrap ((n : Nat) : Int) = (n : Nat) := by rw [IntKind.wrap_u64]; omega
  have hbg := Lib.hid (Big_any n 4 w (by decide) (by decide) hn)
  go_enter Tryd.func29, Tryd.ntmps29
  go_wp2_with fail
  refine hbg.out.mono ?_
  rintro e w1 ⟨rfl, hb1⟩
  go_wp2_with fail
  go_ret
  exact ⟨rfl, hb1⟩
set_option maxRecDepth 100000 in
set_option maxHeartbeats 4000000 in
theorem big_x (n : Nat) (w : World) (hn : n ≤ 9223372036854775807) :
    Calls Tryd.prog 29 #[.int .i64 (n : Nat)] w fun e w' => e = .returned (.string (bs (bigX n))) ∧ Below w.heap.size w w' := by
  have hw1 : IntKind.u64.wrap ((n : Nat) : Int) = (n : Nat) := by rw [IntKind.wrap_u64]; omega
  have hbg := Lib.hid (Big_x n w (by omega))
  go_enter Tryd.func29, Tryd.ntmps29
  go_wp2_with fail
  refine hbg.out.mono ?_
  rintro e w1 ⟨rfl, hb1⟩
  go_wp2_with fail
  go_ret
  exact ⟨rfl, hb1⟩
theorem xor_max (x : Nat) (h : x < 18446744073709551616) : 18446744073709551615 ^^^ x = 18446744073709551615 - x := by
  have h' : x < 2 ^ 64 := h
  have e1 : (18446744073709551615 : Nat) = 2 ^ 64 - 1 := by decide
  have e2 : 18446744073709551615 - x = 2 ^ 64 - (x + 1) := by omega
  rw [e2]
  apply Nat.eq_of_testBit_eq
  intro i
  rw [Nat.testBit_two_pow_sub_succ h', Nat.testBit_xor, e1, Nat.testBit_two_pow_sub_one]
  by_cases hi : i < 64
  · simp [hi]
  · have : x.testBit i = false := Nat.testBit_lt_two_pow (Nat.lt_of_lt_of_le h' (Nat.pow_le_pow_right (by omega) (by omega)))
    simp [hi, this]
theorem not_u64 (x : Nat) (h : x < 18446744073709551616) : bits .xor .u64 (IntKind.u64.max : Int) ((x : Nat) : Int) = ((18446744073709551615 - x : Nat) : Int) := by
  have e : (IntKind.u64.max : Int) = ((18446744073709551615 : Nat) : Int) := by decide
  rw [e, u64_xor_nat _ _ (by decide) h, xor_max x h]
set_option maxRecDepth 100000 in
set_option maxHeartbeats 400000 in
theorem Internal_any (key : ByteArray) (seq : Nat) (w : World) (hG : Gl w) (hk : key.size ≤ 1048576) (hs : seq < 18446744073709551616) :
    Calls Tryd.prog 16 #[.string key, .int .u64 (seq : Nat)] w fun e w' => e = .returned (.string (bs (internalL key.data.toList seq))) ∧ Below w.heap.size w w' := by
  have hx := not_u64 seq hs
  have hx2 : 18446744073709551615 - seq < 256 ^ 8 := by
    have : (256 : Nat) ^ 8 = 18446744073709551616 := by decide
    omega
  have hI : internalL key.data.toList seq = strKey key.data.toList ++ bigL (18446744073709551615 - seq) 8 := rfl
  have hG1 := hG.lt
  have hel := escL_len key.data.toList
  rw [dlen] at hel
  generalize 18446744073709551615 - seq = q at *
  have hbg := Lib.hid (Big_any q 8 w (by decide) (by decide) hx2)
  have hsl : (bs (strKey key.data.toList)).size = (escL key.data.toList).length + 3 := by rw [bs_size]; simp [strKey]
  have hql : (bs (bigL q 8)).size = 8 := by rw [bs_size, bigL_len]
  replace hI := Lib.hid hI
  clear hx2
  go_enter Tryd.func16, Tryd.ntmps16
  go_wp2_with fail
  refine hbg.out.mono ?_
  rintro e w1 ⟨rfl, hb1⟩
  have hstr := Lib.hid (show ∀ w, Calls Tryd.prog 44 #[.string key] w (fun e w' => e = .returned (.agg #[.bool true, .string key, .int .u64 0]) ∧ Below w.heap.size w w') from fun w => Str_any key w)
  go_wp2_with fail
  refine (hstr.out w1).mono ?_
  rintro e w2 ⟨rfl, hb2⟩
  have hb02 := hb1.trans (hb2.mono hb1.size)
  have hG2 := (hG.below hb02 hG1).below ((Below.refl _ _).alloc (Nat.le_refl _) (.cells #[.bool true, .string key, .int .u64 0] 97)) (by have := hb02.size; omega)
  have hbk := Blk.new w2 97 #[.bool true, .string key, .int .u64 0]
  have hkey := Lib.hid (KeyS_any w2.heap.size key _ hG2 (hbk.cell 0) (hbk.cell 1) (hbk.cell 2) (by omega))
  go_wp2_with fail
  refine hkey.out.mono ?_
  rintro e w3 ⟨rfl, hb3⟩
  have hb03 := (hb02.alloc hb02.size (.cells #[.bool true, .string key, .int .u64 0] 97)).trans (hb3.mono (by rw [World.size_alloc]; have := hb02.size; omega))
  go_wp2_with fail
  go_ret
  refine ⟨?_, hb03⟩
  rw [hI.out, ← bs_append]
  rfl
def bytesL (n : Nat) : List UInt8 := if h : n = 0 then [] else bytesL (n / 256) ++ [UInt8.ofNat n]
decreasing_by omega
def rowL (n : Nat) : List UInt8 := if n < 248 then [UInt8.ofNat n] else UInt8.ofNat (247 + (bytesL n).length) :: bytesL n
theorem bytesL_len (n : Nat) : ∀ k, n < 256 ^ k → (bytesL n).length ≤ k := by
  induction n using Nat.strongRecOn with
  | ind n ih =>
    intro k hk
    unfold bytesL
    split
    · simp
    · rename_i h
      cases k with
      | zero => simp at hk; omega
      | succ k =>
        have := ih (n / 256) (by omega) k (by rw [Nat.pow_succ] at hk; omega)
        simp
        omega
theorem one_byte (w : World) (b : Nat) (u : UInt8) (h : w.cell? ⟨b, 0, none⟩ = some (.int .u8 u.toNat)) : (convert 34 9 (.slice (some ⟨b, 0, none⟩) 1 1)).run Tryd.prog w = .ok (.string (bs [u])) w := by
  have := run_convert_bytes_arg (P := Tryd.prog) w 34 5 Tryd.underlying34 Tryd.underlying5 b 0 1 1 [(u.toNat : Int)] (by simp) (fun i hi => by
    have : i = 0 := by omega
    subst this
    simpa using h) 9 Tryd.underlying9
  rw [this]
  simp [strOfNums, bs]
set_option maxRecDepth 100000 in
set_option maxHeartbeats 2000000 in
theorem bytesOf_any (n : Int) (w : World) (h0 : 0 ≤ n) (h1 : n ≤ 18446744073709551615) :
    Calls Tryd.prog 68 #[.int .u64 n] w fun e w' => e = .returned (.string (bs (bytesL n.toNat))) ∧ Below w.heap.size w w' := by
  have hlen := bytesL_len n.toNat 8 (by omega)
  have hconv := one_byte
  go_enter Tryd.func68, Tryd.ntmps68
  go_wp2
  go_loopw [0, 3] (fun v s wr => ∃ (m : Int) (L : List UInt8), 0 ≤ m ∧ m ≤ 18446744073709551615 ∧ v = .int .u64 m ∧ s = .string (bs L) ∧ bytesL m.toNat ++ L = bytesL n.toNat ∧ Below w.heap.size w wr) (fun v _ _ => (intOf v).toNat)
  case atStart => exact ⟨n, [], h0, h1, rfl, rfl, by simp, Below.refl _ _⟩
  case round =>
    obtain ⟨m, L, m0, m1, rfl, rfl, hL, hb0⟩ := hrel
    by_cases hm : 0 < m
    · go_wp2_with fail
      have hby := byte_of0 m m0
      rw [one_byte _ wr.heap.size (UInt8.ofNat m.toNat) (by rw [← hby]; simp [go_sem])]
      simp only [Result.andThen]
      rw [Oper.upon_value]
      have q1 : (bs [UInt8.ofNat m.toNat]).size + (bs L).size ≤ 9223372036854775807 := by
        have := congrArg List.length hL
        rw [List.length_append] at this
        rw [bs_size, bs_size]
        simp
        omega
      replace hby := Lib.hid hby
      have hL' : bytesL (m / 256).toNat ++ (UInt8.ofNat m.toNat :: L) = bytesL n.toNat := by
        rw [← hL, show (m / 256).toNat = m.toNat / 256 from by omega]
        conv => rhs; unfold bytesL
        rw [dif_neg (by omega)]
        simp
      replace hL := Lib.hid hL
      replace hL' := Lib.hid hL'
      go_wp2_with fail
      refine ⟨⟨m / 256, UInt8.ofNat m.toNat :: L, by omega, by omega, rfl, by rw [bs_append]; rfl, hL'.out, hb0.alloc hb0.size _⟩, by simp [intOf]; omega⟩
    · obtain rfl : m = 0 := by omega
      go_wp2_with fail
      go_ret
      refine ⟨?_, hb0⟩
      rw [← hL]
      unfold bytesL
      simp
theorem rowL_len (n : Nat) (h : n < 18446744073709551616) : (rowL n).length ≤ 9 := by
  have := bytesL_len n 8 (by omega)
  unfold rowL
  split <;> simp
  omega
set_option maxRecDepth 100000 in
set_option maxHeartbeats 2000000 in
theorem Row_any (n : Int) (w : World) (h0 : 0 ≤ n) (h1 : n ≤ 18446744073709551615) :
    Calls Tryd.prog 69 #[.int .u64 n] w fun e w' => e = .returned (.string (bs (rowL n.toNat))) ∧ Below w.heap.size w w' := by
  have hlen := bytesL_len n.toNat 8 (by omega)
  by_cases hlo : n < 248
  · have hr : rowL n.toNat = [UInt8.ofNat n.toNat] := by unfold rowL; rw [if_pos (by omega)]
    replace hr := Lib.hid hr
    have hby : n = (((UInt8.ofNat n.toNat).toNat : Nat) : Int) := by have := byte_of0 n h0; omega
    replace hby := Lib.hid hby
    go_enter Tryd.func69, Tryd.ntmps69
    go_wp2_with fail
    rw [one_byte _ w.heap.size (UInt8.ofNat n.toNat) (by rw [← hby.out]; simp [go_sem])]
    simp only [Result.andThen]
    rw [Oper.upon_value]
    go_wp2_with fail
    go_ret
    exact ⟨by rw [hr.out]; rfl, (by repeat' first | (with_reducible exact Below.refl _ _) | (with_reducible refine Below.setCell ?_ ?_ _) | (with_reducible refine Below.alloc ?_ ?_ _) | (with_reducible refine Below.drew ?_) | (with_reducible refine Below.trans ?_ (Below.mono (by assumption) ?_)) | omega | (simp; done) | (simp; omega))⟩
  · have hr : rowL n.toNat = UInt8.ofNat (247 + (bytesL n.toNat).length) :: bytesL n.toNat := by unfold rowL; rw [if_neg (by omega)]
    replace hr := Lib.hid hr
    have hsz := bs_size (bytesL n.toNat)
    have q1 : (bs (bytesL n.toNat)).size ≤ 8 := by rw [hsz]; exact hlen
    have hby : (247 + (((bs (bytesL n.toNat)).size : Nat) : Int)) = (((UInt8.ofNat (247 + (bytesL n.toNat).length)).toNat : Nat) : Int) := by
      rw [hsz]; simp [UInt8.toNat_ofNat']; omega
    replace hby := Lib.hid hby
    replace hsz := Lib.hid hsz
    generalize UInt8.ofNat (247 + (bytesL n.toNat).length) = u at *
    have q2 : (bs [u]).size + (bs (bytesL n.toNat)).size ≤ 9223372036854775807 := by rw [bs_size [_]]; simp; omega
    go_enter Tryd.func69, Tryd.ntmps69
    go_wp2_with fail
    refine (bytesOf_any n _ h0 h1).mono ?_
    rintro e w1 ⟨rfl, hb1⟩
    have hz1 := hb1.size
    go_wp2_with fail
    rw [one_byte _ w1.heap.size u (by rw [← hby.out]; simp [go_sem])]
    simp only [Result.andThen]
    rw [Oper.upon_value]
    go_wp2_with fail
    go_ret
    refine ⟨?_, (by repeat' first | (with_reducible exact Below.refl _ _) | (with_reducible refine Below.setCell ?_ ?_ _) | (with_reducible refine Below.alloc ?_ ?_ _) | (with_reducible refine Below.drew ?_) | (with_reducible refine Below.trans ?_ (Below.mono (by assumption) ?_)) | omega | (simp; done) | (simp; omega))⟩
    rw [hr.out, bs_append]
    rfl
theorem bigL_snoc (n : Nat) : ∀ w, bigL n (w + 1) = bigL (n / 256) w ++ [UInt8.ofNat n]
  | 0 => by simp [bigL]
  | w + 1 => by
    have ih := bigL_snoc n w
    show UInt8.ofNat (n / 256 ^ (w + 1)) :: bigL n (w + 1) = UInt8.ofNat (n / 256 / 256 ^ w) :: bigL (n / 256) w ++ [UInt8.ofNat n]
    rw [ih, Nat.div_div_eq_div_mul, Nat.pow_succ, Nat.mul_comm 256]
    rfl
theorem bytesL_big : ∀ (w n : Nat), n < 256 ^ w → (w = 0 ∨ 256 ^ (w - 1) ≤ n) → bytesL n = bigL n w
  | 0, n, h, _ => by
    have : n = 0 := by simp at h; omega
    subst this
    unfold bytesL
    simp [bigL]
  | w + 1, n, h, h' => by
    have hp : 0 < 256 ^ w := Nat.pow_pos (by omega)
    have h1 : 256 ^ w ≤ n := by rcases h' with h' | h'; · cases h'
                                · simpa using h'
    unfold bytesL
    rw [dif_neg (by omega), bigL_snoc, bytesL_big w (n / 256) (by rw [Nat.pow_succ] at h; omega) ?_]
    cases w with
    | zero => exact .inl rfl
    | succ w => exact .inr (by rw [Nat.pow_succ] at h1; simp; omega)
theorem rowL_eq (n : Nat) (h' : n < 18446744073709551616) : rowL n = varL1 n := by
  unfold rowL varL1
  by_cases h : n < 248
  · rw [if_pos h, if_neg (by unfold behindN; rw [if_pos h]; omega)]
  · obtain ⟨a, b⟩ := behindN_spec n (by omega) h'
    have hp : 0 < behindN n := by
      rcases Nat.eq_zero_or_pos (behindN n) with h0 | h0
      · rw [h0] at a; simp at a; omega
      · exact h0
    rw [if_neg h, if_pos hp, bytesL_big (behindN n) n a (.inr b), bigL_len]
theorem bigL_zero : ∀ w, bigL 0 w = List.replicate w 0
  | 0 => rfl
  | w + 1 => by
    rw [bigL_snoc, Nat.zero_div, bigL_zero w, List.replicate_succ']
    rfl
theorem padL : ∀ (w n : Nat), n < 256 ^ w → bigL n w = List.replicate (w - (bytesL n).length) 0 ++ bytesL n
  | 0, n, h => by
    have h0 : n = 0 := by simpa using h
    subst h0
    unfold bytesL
    simp [bigL]
  | w + 1, n, h => by
    by_cases h0 : n = 0
    · subst h0
      rw [bigL_zero]
      unfold bytesL
      simp
    · rw [bigL_snoc]
      have h2 : n / 256 < 256 ^ w := by rw [Nat.pow_succ] at h; omega
      rw [padL w (n / 256) h2]
      have e : bytesL n = bytesL (n / 256) ++ [UInt8.ofNat n] := by
        conv => lhs; unfold bytesL
        rw [dif_neg h0]
      rw [e, List.length_append, List.length_singleton, List.append_assoc]
      congr 2
      omega
set_option maxRecDepth 100000 in
set_option maxHeartbeats 2000000 in
theorem RBig_any (n : Nat) (k : Nat) (w : World) (hk0 : 1 ≤ k) (hk1 : k ≤ 8) (hn : n < 256 ^ k) :
    Calls Tryd.prog 47 #[.int .u64 (n : Nat), .int .i64 (k : Nat)] w fun e w' => e = .returned (.tuple #[.string (bs (bigL n k)), .int .i64 0]) ∧ Below w.heap.size w w' := by
  have hn64 : n < 18446744073709551616 := by
    have h1 : (256 : Nat) ^ k ≤ 256 ^ 8 := Nat.pow_le_pow_right (by omega) hk1
    have h2 : (256 : Nat) ^ 8 = 18446744073709551616 := by decide
    omega
  have hlen := bytesL_len n k hn
  have hpad := padL k n hn
  have hby := bytesOf_any (n : Int) w (by omega) (by omega)
  rw [Int.toNat_natCast] at hby
  have hk0' : ¬ ((k : Nat) : Int) < 1 := by omega
  have hk1' : ¬ (8 : Int) < ((k : Nat) : Int) := by omega
  generalize bytesL n = B at *
  have hBs : (bs B).size = B.length := bs_size _
  have hkl : ¬ ((k : Nat) : Int) < (B.length : Nat) := by omega
  replace hby := Lib.hid hby
  replace hpad := Lib.hid hpad
  clear hn64
  replace hn := Lib.hid hn
  go_enter Tryd.func47, Tryd.ntmps47
  go_wp2_with fail
  refine hby.out.mono ?_
  rintro e w1 ⟨rfl, hb1⟩
  go_wp2_with fail
  go_loopw [6] (fun sv wr => ∃ j, j + B.length ≤ k ∧ sv = .string (bs (List.replicate j 0 ++ B)) ∧ wr = w1) (fun sv _ => match sv with
    | .string s => k - s.size
    | _ => 0)
  case atStart => exact ⟨0, by omega, rfl, rfl⟩
  case round =>
    obtain ⟨j, hj, rfl, rfl⟩ := hrel
    have hss : (bs (List.replicate j 0 ++ B)).size = j + B.length := by rw [bs_size, List.length_append, List.length_replicate]
    by_cases hl : j + B.length < k
    · have hl' : ((j : Nat) : Int) + (B.length : Nat) < (k : Nat) := by omega
      have hap : (⟨#[0]⟩ : ByteArray) ++ bs (List.replicate j 0 ++ B) = bs (List.replicate (j + 1) 0 ++ B) := by
        rw [show (⟨#[0]⟩ : ByteArray) = bs [0] from rfl, bs_append, List.replicate_succ]
        rfl
      have hs1 : ¬ 9223372036854775807 < (⟨#[0]⟩ : ByteArray).size + (bs (List.replicate j 0 ++ B)).size := by rw [hss]; show ¬ 9223372036854775807 < 1 + _; omega
      go_wp2_with fail
      refine ⟨⟨j + 1, by omega, rfl, by trivial⟩, ?_⟩
      show k - ((⟨#[0]⟩ : ByteArray) ++ bs (List.replicate j 0 ++ B)).size < k - (bs (List.replicate j 0 ++ B)).size
      rw [hap, bs_size, bs_size]
      simp only [List.length_append, List.length_replicate]
      omega
    · have hl' : ¬ ((j : Nat) : Int) + (B.length : Nat) < (k : Nat) := by omega
      have hjk : j = k - B.length := by omega
      subst hjk
      rw [← hpad.out] at hss ⊢
      have hss' : (bs (bigL n k)).size = k := by rw [bs_size, bigL_len]
      go_wp2_with fail
      go_ret2
      exact ⟨rfl, hb1⟩
theorem OwnW.form {w : World} {B : Nat} {v : Value} {l : List Nat} (h : OwnW w B v l) : ∃ A cap, v = .slice A l.length cap := by
  rcases h.2 with ⟨rfl, e⟩ | ⟨g, cap, cur, rfl, _⟩
  · exact ⟨none, 0, by rw [e]⟩
  · exact ⟨_, cap, rfl⟩
theorem OwnW.of_law {w : World} {B n : Nat} {v : Value} {l : List Nat} {m : Nat} (h : w.ownsRow B 24 1 v n ((l.map fun n => Value.int .u64 (n : Nat)) ++ [.int .u64 (m : Nat)])) : OwnW w B v (l ++ [m]) := by
  have hl : n = (l ++ [m]).length := by have := h.1; simp at this; simp; omega
  subst hl
  unfold OwnW
  rw [List.map_append]
  exact h
theorem new_strs (w : World) (a b : ByteArray) (t : TypeId) : Reads (w.alloc (.cells #[.string a, .string b] t)) (w.heap.size + 1) 1 (some ⟨w.heap.size, 0, none⟩) 2 [.string a, .string b] := by
  refine ⟨rfl, fun _ => ⟨_, rfl, by simp, fun j u hu => ?_⟩⟩
  rcases j with _ | _ | j
  · simp at hu
    subst hu
    rw [show (⟨w.heap.size, 0, none⟩ : Addr).add 0 = ⟨w.heap.size, 0, none⟩ from rfl, (Blk.new w t #[.string a, .string b]).cell 0]
    rfl
  · simp at hu
    subst hu
    rw [show (⟨w.heap.size, 0, none⟩ : Addr).add (0 + 1) = ⟨w.heap.size, 1, none⟩ from rfl, (Blk.new w t #[.string a, .string b]).cell 1]
    rfl
  · simp at hu
/-- Text of two texts, whose slice was just made. -/
theorem Text_two (c : Nat) (a b : ByteArray) (w : World) (hb : c < w.heap.size) (h0 : w.cell? ⟨c, 0, none⟩ = some (.string a)) (h1 : w.cell? ⟨c, 1, none⟩ = some (.string b)) (ha : a.size ≤ 1099511627776) (hbs : b.size ≤ 1099511627776) :
    Calls Tryd.prog 55 #[.slice (some ⟨c, 0, none⟩) 2 2] w fun e w' => e = .returned (.string (bs (textL [a.data.toList, b.data.toList]))) ∧ Below w.heap.size w w' := by
  have hl : (textL [a.data.toList, b.data.toList]).length ≤ 4611686018427387904 := by
    have := varL1_len a.data.toList.length
    have := varL1_len b.data.toList.length
    simp only [textL, List.length_append, List.append_nil]
    rw [dlen, dlen] at *
    omega
  have h := Text_any (some ⟨c, 0, none⟩) [a, b] 2 w ⟨rfl, fun _ => ⟨_, rfl, hb, fun j u hu => by
    rcases j with _ | _ | j
    · simp at hu
      subst hu
      exact h0
    · simp at hu
      subst hu
      exact h1
    · simp at hu⟩⟩ (by simp) (by simpa using hl)
  simpa using h
/-- What Add's last region has done, by whether the bytes are appended, and the row is laid down. -/
def JA (w1 : World) (B g t off : Nat) (cs : Array Value) (vb : Value) (l : L) : Bool → Bool → World → Prop
  | false, false, w => Below w1.heap.size w1 w
  | true, false, w => KeptBut w1 w (fun k => vb.ownBlock = some k)
  | true, true, w => ∃ v, OwnB w B v l ∧ Moved w1 vb v ∧ KeptBut w1 w (fun k => k = g ∨ vb.ownBlock = some k) ∧ Blk w g t (cs.setIfInBounds off v)
  | false, true, _ => False
section
variable {w1 : World} {B g t off : Nat} {cs : Array Value} {vb : Value} {l : L} {a b : Bool} {w : World}
theorem JA.ff (ha : a = false) (hb : b = false) (h : Below w1.heap.size w1 w) : JA w1 B g t off cs vb l a b w := by subst ha hb; exact h
theorem JA.of_ff (ha : a = false) (hb : b = false) (h : JA w1 B g t off cs vb l a b w) : Below w1.heap.size w1 w := by subst ha hb; exact h
theorem JA.tf (hb : b = false) (h : KeptBut w1 w (fun k => vb.ownBlock = some k)) : JA w1 B g t off cs vb l true b w := by subst hb; exact h
theorem JA.tt (ha : a = true) (h : ∃ v, OwnB w B v l ∧ Moved w1 vb v ∧ KeptBut w1 w (fun k => k = g ∨ vb.ownBlock = some k) ∧ Blk w g t (cs.setIfInBounds off v)) : JA w1 B g t off cs vb l a true w := by subst ha; exact h
theorem JA.of_tt (ha : a = true) (hb : b = true) (h : JA w1 B g t off cs vb l a b w) : ∃ v, OwnB w B v l ∧ Moved w1 vb v ∧ KeptBut w1 w (fun k => k = g ∨ vb.ownBlock = some k) ∧ Blk w g t (cs.setIfInBounds off v) := by subst ha hb; exact h
theorem JA.of_tf (hb : b = false) (h : JA w1 B g t off cs vb l true b w) : KeptBut w1 w (fun k => vb.ownBlock = some k) := by subst hb; exact h
end
theorem Moved.of_le {w w' : World} {v v' : Value} (h : Moved w' v v') (hz : w.heap.size ≤ w'.heap.size) : Moved w v v' := h.imp id (fun ⟨k, e, hk⟩ => ⟨k, e, Nat.le_trans hz hk⟩)
theorem Moved.of_at {w1 w w9 : World} {B : Nat} {v v9 : Value} {l : L} (h : ∀ k, v9.ownBlock = some k → v.ownBlock = some k ∨ k = w.heap.size) (hz : w1.heap.size ≤ w.heap.size) (ho : OwnB w9 B v9 l) (hv : v9.ownBlock = none → v.ownBlock = none) : Moved w1 v v9 := by
  rcases hq : v9.ownBlock with _ | k
  · exact .inl (hq.trans (hv hq).symm)
  · rcases h k hq with e | e
    · exact .inl (hq.trans e.symm)
    · exact .inr ⟨k, hq, by omega⟩
theorem own_some {w : World} {B : Nat} {v : Value} {l : L} (h : OwnB w B v l) (h0 : 0 < l.length) : v.ownBlock ≠ none := by
  rcases h.2 with ⟨_, e⟩ | ⟨g, cap, cur, rfl, _⟩
  · omega
  · simp [Value.ownBlock]
theorem BB.enc_pos (s : BB) (k v : L) : 0 < (s.enc k v).length := by
  unfold BB.enc varL1
  rw [List.length_append]
  split <;> simp <;> omega
theorem own_set {w : World} {B e n g t o : Nat} {v u : Value} {xs : List Value} {cs : Array Value} (h : w.ownsRow B e 1 v n xs) (hg : Blk w g t cs) (ht : t ≠ e) : (w.setCell ⟨g, o, none⟩ u).ownsRow B e 1 v n xs :=
  own_kept h ((KeptBut.refl w (fun k => k = g)).then_set rfl) (fun k hk e => own_blk_ne h hg (fun e => ht e.symm) (by rw [hk, e]))
theorem tauL_mono2 {vs : List (Option Value)} {Sp : Nat → Value → World → Prop} {w w' : World} {i : Nat} (hs : ∀ k u, k ≠ i → Sp k u w → Sp k u w') (k : Nat) (u : Value) (hk : k ≠ i) (h : tauL vs Sp k u w) : tauL vs Sp k u w' := by
  unfold tauL at *
  split at h <;> first | exact h | exact hs _ _ hk h
def SA (w1 : World) (B n : Nat) (x y : ByteArray) (vb : Value) (l : L) : Nat → Value → World → Prop
  | 7, v, w => ∃ b, v = .slice (some ⟨b, 0, none⟩) 1 1 ∧ w1.heap.size ≤ b ∧ b < w.heap.size ∧ w.cell? ⟨b, 0, none⟩ = some (.int .u64 (n : Nat))
  | 13, v, w => ∃ b, v = .slice (some ⟨b, 0, none⟩) 2 2 ∧ w1.heap.size ≤ b ∧ b < w.heap.size ∧ w.cell? ⟨b, 0, none⟩ = some (.string x) ∧ w.cell? ⟨b, 1, none⟩ = some (.string y)
  | 16, v, w => OwnB w B v l ∧ Moved w1 vb v
  | _, _, _ => True
theorem SA.mono {w1 : World} {B n : Nat} {x y : ByteArray} {vb : Value} {l : L} {w w' : World} (hb : Below w.heap.size w w') : ∀ k u, SA w1 B n x y vb l k u w → SA w1 B n x y vb l k u w' := by
  intro k u h
  unfold SA at *
  split at h
  · obtain ⟨b, e, h1, h2, h3⟩ := h
    exact ⟨b, e, h1, by have := hb.size; omega, (hb.cell (p := ⟨b, 0, none⟩) h2).trans h3⟩
  · obtain ⟨b, e, h1, h2, h3, h4⟩ := h
    exact ⟨b, e, h1, by have := hb.size; omega, (hb.cell (p := ⟨b, 0, none⟩) h2).trans h3, (hb.cell (p := ⟨b, 1, none⟩) h2).trans h4⟩
  · exact ⟨own_block h.1 (fun k hk => hb.block k (own_lt h.1 k hk).2), h.2⟩
  · trivial
theorem SA.mono2 {w1 : World} {B n : Nat} {x y : ByteArray} {vb : Value} {l : L} {w w' : World} {S : Nat → Prop} (hb : KeptBut w w' S) (hS : ∀ k, S k → k < w1.heap.size) : ∀ k u, k ≠ 16 → SA w1 B n x y vb l k u w → SA w1 B n x y vb l k u w' := by
  intro k u hk h
  unfold SA at *
  split at h
  · obtain ⟨b, e, h1, h2, h3⟩ := h
    have hn : ¬ S b := fun hs => by have := hS b hs; omega
    exact ⟨b, e, h1, by have := hb.size; omega, (hb.cell ⟨b, 0, none⟩ h2 hn).trans h3⟩
  · obtain ⟨b, e, h1, h2, h3, h4⟩ := h
    have hn : ¬ S b := fun hs => by have := hS b hs; omega
    exact ⟨b, e, h1, by have := hb.size; omega, (hb.cell ⟨b, 0, none⟩ h2 hn).trans h3, (hb.cell ⟨b, 1, none⟩ h2 hn).trans h4⟩
  · exact absurd rfl hk
  · trivial
theorem SA.mono3 {w1 : World} {B n g t : Nat} {cs : Array Value} {x y : ByteArray} {vb u0 : Value} {l : L} {w : World} {off : Nat} (hg : g < w1.heap.size) (hblk : Blk w g t cs) (ht : t ≠ 5) : ∀ k u, SA w1 B n x y vb l k u w → SA w1 B n x y vb l k u (w.setCell ⟨g, off, none⟩ u0) := by
  intro k u h
  have hb : KeptBut w (w.setCell ⟨g, off, none⟩ u0) (fun k => k = g) := (KeptBut.refl _ _).then_set rfl
  by_cases hk : k = 16
  · subst hk
    exact ⟨own_kept h.1 hb (fun k hk e => own_blk_ne h.1 hblk (fun e => ht e.symm) (by rw [hk, e])), h.2⟩
  · exact SA.mono2 hb (fun k e => by rw [e]; exact hg) k u hk h
theorem wp_append_str {w : World} {o : Oper} {a : Act} {K : Act → World → Prop} {Q : Exit → Act → World → Prop} (sl x : Operand)
    (ho : o.op = .call { callee := .builtin .append, args := #[sl, x], argTypes := #[34, 9] })
    (base : Nat) (v : Value) (l : List UInt8) (hs : a.eval sl = v) (hown : OwnB w base v l) (s : ByteArray) (hx : a.eval x = .string s) (hbytes : l.length + s.size ≤ 70368744177664) (hbase : base ≤ w.heap.size)
    (h : ∀ v' w', OwnB w' base v' (l ++ s.data.toList) → w.grownBy w' v.ownBlock → (∀ k, v'.ownBlock = some k → v.ownBlock = some k ∨ k = w.heap.size) → K (a.put o.dst v') w') : o.wp Tryd.prog a w K Q := by
  obtain ⟨v', w', hr, h2, h3, h4⟩ := run_append_str o.type s hown hbytes hbase
  unfold Oper.wp execOp
  simp only [ho, resolve, invoke, builtin, Sem.run_bind, Sem.run_pure, Result.andThen_ok, List.map_toArray, List.map_cons, List.map_nil, hs, hx, hr]
  exact h v' w' h2 h3 h4
def usL (l : List Value) : Nat → Value := fun k => l.getD k undef
theorem set_self_get {cs : Array Value} {i : Nat} {v : Value} (h : cs[i]? = some v) : cs.setIfInBounds i v = cs := by
  apply Array.ext_getElem?
  intro j
  by_cases hj : j = i
  · subst hj
    rcases Nat.lt_or_ge j cs.size with hl | hl
    · rw [Array.getElem?_setIfInBounds_self_of_lt hl, h]
    · rw [Array.getElem?_eq_none hl] at h; cases h
  · rw [Array.getElem?_setIfInBounds_ne (fun e => hj e.symm)]
theorem set_lt {cs : Array Value} {i : Nat} {v : Value} (h : cs[i]? = some v) : i < cs.size := by
  rcases Nat.lt_or_ge i cs.size with hl | hl
  · exact hl
  · rw [Array.getElem?_eq_none hl] at h; cases h
theorem setBB_get {cs : Array Value} {off : Nat} {vb vs : Value} {s : BB} (h : off + 3 < cs.size) : (setBB cs off vb vs s)[off]? = some vb ∧ (setBB cs off vb vs s)[off + 1]? = some vs ∧ (setBB cs off vb vs s)[off + 2]? = some (.int .i64 s.count) ∧ (setBB cs off vb vs s)[off + 3]? = some (.string (bs s.last)) := by
  unfold setBB
  refine ⟨?_, ?_, ?_, ?_⟩
  · rw [Array.getElem?_setIfInBounds_ne (by omega), Array.getElem?_setIfInBounds_ne (by omega), Array.getElem?_setIfInBounds_ne (by omega), Array.getElem?_setIfInBounds_self_of_lt (by omega)]
  · rw [Array.getElem?_setIfInBounds_ne (by omega), Array.getElem?_setIfInBounds_ne (by omega), Array.getElem?_setIfInBounds_self_of_lt (by simp; omega)]
  · rw [Array.getElem?_setIfInBounds_ne (by omega), Array.getElem?_setIfInBounds_self_of_lt (by simp; omega)]
  · rw [Array.getElem?_setIfInBounds_self_of_lt (by simp; omega)]
theorem BBAt.put_end {w W1 wx : World} {B g t off : Nat} {cs cs1 : Array Value} {s : BB} {vb vs vs' v9 x y : Value} {k v : L} (h : BBAt w B g t off cs s vb vs) (hcs1 : cs1 = cs.setIfInBounds (off + 1) vs')
    (hKt : KeptBut w W1 (BS g vb vs)) (hWt : OwnW W1 B vs' (s.put k v).starts) (hm : Moved w vs vs') (hgs : vs'.ownBlock ≠ some g) (ho9 : OwnB wx B v9 (s.b ++ s.enc k v)) (hm9 : Moved W1 vb v9)
    (hk9 : KeptBut W1 wx (fun k => k = g ∨ vb.ownBlock = some k)) (hb9 : Blk wx g t (cs1.setIfInBounds off v9)) (hvs : ∀ k, vb.ownBlock = some k → vs'.ownBlock ≠ some k)
    (hx : x = .string (bs k)) (hy : y = .int .i64 ((s.count + 1 : Nat) : Int)) :
    ∃ vb' vs'', BBAt ((wx.setCell ⟨g, off + 3, none⟩ x).setCell ⟨g, off + 2, none⟩ y) B g t off (setBB cs off vb' vs'' (s.put k v)) (s.put k v) vb' vs'' ∧ KeptBut w ((wx.setCell ⟨g, off + 3, none⟩ x).setCell ⟨g, off + 2, none⟩ y) (BS g vb vs) ∧ Moved w vb vb' ∧ Moved w vs vs'' := by
  subst hx hy hcs1
  have hsz := set_lt h.e3
  have e : ((((cs.setIfInBounds (off + 1) vs').setIfInBounds off v9).setIfInBounds (off + 3) (.string (bs k))).setIfInBounds (off + 2) (.int .i64 ((s.count + 1 : Nat) : Int))) = setBB cs off v9 vs' (s.put k v) := by
    unfold setBB
    rw [Array.setIfInBounds_comm (i := off) (j := off + 1) _ _ (by omega), Array.setIfInBounds_comm (i := off + 2) (j := off + 3) _ _ (by omega)]
    rfl
  have hB1 := hb9.set_ (off + 3) (.string (bs k))
  have hB2 := hB1.set_ (off + 2) (.int .i64 ((s.count + 1 : Nat) : Int))
  rw [e] at hB2
  have o1 := own_set (o := off + 3) (u := .string (bs k)) ho9 hb9 h.tb
  have o2 := own_set (o := off + 2) (u := .int .i64 ((s.count + 1 : Nat) : Int)) o1 hB1 h.tb
  have p0 := own_kept hWt hk9 (fun k hk e => by
    rcases e with e | e
    · exact hgs (by rw [hk, e])
    · exact hvs k e hk)
  have p1 := own_set (o := off + 3) (u := .string (bs k)) p0 hb9 h.tw
  have p2 := own_set (o := off + 2) (u := .int .i64 ((s.count + 1 : Nat) : Int)) p1 hB1 h.tw
  obtain ⟨g0, g1, g2, g3⟩ := setBB_get (cs := cs) (off := off) (vb := v9) (vs := vs') (s := s.put k v) hsz
  refine ⟨v9, vs', ⟨h.hB, hB2, g0, g1, g2, g3, o2, p2, h.tb, h.tw⟩, ?_, hm9.of_le hKt.size, hm⟩
  exact (((hKt.trans hk9 (fun k _ e => e.elim .inl (fun e => .inr (.inl e)))).then_set (.inl rfl)).then_set (.inl rfl))
set_option maxRecDepth 100000 in
set_option maxHeartbeats 4000000 in
theorem BAdd_ok {w : World} {B g t off : Nat} {cs : Array Value} {s : BB} {vb vs : Value} (h : BBAt w B g t off cs s vb vs) (k v : ByteArray) (he : s.err k.data.toList v.data.toList = 0) (hB : B ≤ w.heap.size) (hbl : s.b.length ≤ 1099511627776) (hst : s.starts.length ≤ 1099511627776) (hcnt : s.count ≤ 1099511627776) (hla : s.last.length ≤ 1099511627776) :
    Calls Tryd.prog 32 #[.pointer (some ⟨g, off, none⟩), .string k, .string v] w fun e w' => e = .returned (.int .i64 0) ∧ ∃ vb' vs', BBAt w' B g t off (setBB cs off vb' vs' (s.put k.data.toList v.data.toList)) (s.put k.data.toList v.data.toList) vb' vs' ∧ KeptBut w w' (BS g vb vs) ∧ Moved w vb vb' ∧ Moved w vs vs' := by
  obtain ⟨i0, hi0, hz0, hz1, hz2⟩ := info_parts u64_info
  obtain ⟨Ab, cb, rfl⟩ := h.ob.form
  obtain ⟨As, cas, rfl⟩ := h.os.form
  have c0 := (h.blk.cell off).trans h.e0
  have c1 := (h.blk.cell (off + 1)).trans h.e1
  have c2 := (h.blk.cell (off + 2)).trans h.e2
  have c3 := (h.blk.cell (off + 3)).trans h.e3
  have f0 := h.blk.frozen off
  have f1 := h.blk.frozen (off + 1)
  have f2 := h.blk.frozen (off + 2)
  have f3 := h.blk.frozen (off + 3)
  have hlt := h.blk.lt
  have htb := h.tb
  have hlk : k.data.toList.length = k.size := (Lib.size_eq k).symm
  have hlv : v.data.toList.length = v.size := (Lib.size_eq v).symm
  have hle : (Op.bytesLess k.toList (bs s.last).toList || k.toList == (bs s.last).toList) = !(lessL s.last k.data.toList) := by
    rw [bs_toList, ByteArray.toList_eq]
    exact less_tri _ _
  have hE := he
  unfold BB.err at hE
  rw [hlk, hlv] at hE
  have hlong : ¬ (1024 < k.size ∨ 1024 < v.size) := by
    intro hh
    rw [if_pos hh] at hE
    cases hE
  rw [if_neg hlong] at hE
  have h1' : ¬ (1024 : Int) < k.size := by omega
  have h2' : ¬ (1024 : Int) < v.size := by omega
  have hor : ¬ (0 < s.count ∧ lessL s.last k.data.toList = false) := by
    intro hh
    rw [if_pos hh] at hE
    cases hE
  clear hE
  replace hlk := Lib.hid hlk
  replace hlv := Lib.hid hlv
  by_cases hm : s.count % 4 = 0
  · have hm' : (s.count : Int) % 4 = 0 := by omega
    by_cases h0 : 0 < s.count
    · have h0' : (0 : Int) < s.count := by omega
      have hl : lessL s.last k.data.toList = true := by
        rcases hq : lessL s.last k.data.toList with _ | _
        · exact absurd ⟨h0, hq⟩ hor
        · rfl
      rw [hl] at hle
      clear hl hor
      go_enter Tryd.func32, Tryd.ntmps32
      go_wp2_with fail
      have hxc := @Ext.cell
      have hxf := @Ext.frozen
      refine wp_hide (fun Q0 hQ0 => ?_)
      refine wp_region_line (fun w' => ∃ x : Ext _, w' = x.w) [some true, some false, some false, some false, some false, some false, some false, some false, some false, some false, some false, none, none, none, none, none] 1 (by kernel_rfl) (by kernel_rfl) ⟨⟨_, (Below.refl _ _).drew⟩, rfl⟩ ?_
      simp only [earlyL, tailL]
      repeat (first | ((with_reducible refine wpMix_p ?_); go_big_quiet_step (fail); refine wpQuiet_nil ?_) | ((with_reducible refine wpMix_e ?_); go_big_quiet_step ((first | fail)); refine wpQuiet_nil ?_))
      refine wpMix_nil ?_
      clear hxc hxf
      intro wx hwx
      obtain ⟨x, hx⟩ := hwx
      have hb := x.below
      rw [← hx] at hb
      clear hx x
      have hbs := hb.size
      have hown := own_block h.os (fun k hk => hb.block k (own_lt h.os k hk).2)
      have hownx := World.ownsRow.alloc hown (.cells #[.int .u64 (s.b.length : Nat)] 24)
      have hrd := new_u64 wx (s.b.length : Nat) 24
      have hone : ∀ u ∈ [Value.int .u64 (s.b.length : Nat)], u.oneCell' = true := by
        intro u hu
        simp at hu
        subst hu
        rfl
      have hBx : B ≤ (wx.alloc (.cells #[.int .u64 (s.b.length : Nat)] 24)).heap.size := by rw [World.size_alloc]; omega
      replace hone := Lib.hid hone
      clear hown
      refine wpTail_step ?_
      intro Q1 hQ1
      go_wp2_with fail
      refine hQ1 _ _ rfl (fun _ => ⟨⟨_, hb.alloc hbs _⟩, rfl⟩) ?_
      clear hQ1 Q1
      refine wpTail_step ?_
      intro Q1 hQ1
      go_wp2_with (at_builtin; refine wpList_append_any _ rfl (.tmp 44) (.tmp 51) 62 rfl B 24 i0 (.int .u64 0) 1 8 Tryd.underlying62 hi0 hz0 hz1 hz2 rfl (by omega) (.slice As s.starts.length cas) s.starts.length (s.starts.map fun n => Value.int .u64 (n : Nat)) rfl hownx (wx.heap.size + 1) (some ⟨wx.heap.size, 0, none⟩) 1 1 [.int .u64 (s.b.length : Nat)] rfl hrd hone.out (by unfold maxLen; omega) (by omega) hBx ?_; intro v2 w2 hown2 hgr2 hat2)
      refine hQ1 _ _ rfl (fun h => absurd h (by decide)) ?_
      clear hQ1 Q1
      have ho2 := OwnW.of_law hown2
      obtain ⟨A2, c2', e2⟩ := ho2.form
      rw [List.length_append, List.length_singleton] at e2
      subst e2
      have hk2 : KeptBut w w2 (fun k => (Value.slice As s.starts.length cas).ownBlock = some k) := (KeptBut.of_below (hb.alloc hbs _)).then_grown hgr2 (fun k e => e)
      have hm2 : Moved w (.slice As s.starts.length cas) (.slice A2 (s.starts.length + 1) c2') := by
        rcases hat2 with e | e
        · exact .inl e
        · exact .inr ⟨_, e, by rw [World.size_alloc]; omega⟩
      have hB2 : Blk w2 g t cs := h.blk.keptB hk2 h.gs
      have hO2 : OwnB w2 B (.slice Ab s.b.length cb) s.b := own_kept h.ob hk2 h.nbs
      have y1 := hB2.frozen (off + 1)
      have y2 := (hB2.cell (off + 1)).trans h.e1
      replace hk2 := Lib.hid hk2
      replace hm2 := Lib.hid hm2
      replace hB2 := Lib.hid hB2
      replace hO2 := Lib.hid hO2
      replace ho2 := Lib.hid ho2
      clear hown2 hgr2 hat2 hownx hrd hone
      refine wpTail_step ?_
      intro Q1 hQ1
      go_wp2_with (fail)
      refine hQ1 _ _ rfl (fun h => absurd h (by decide)) ?_
      clear hQ1 Q1
      refine wpTail_step ?_
      intro Q1 hQ1
      go_wp2_with (fail)
      refine hQ1 _ _ rfl (fun h => absurd h (by decide)) ?_
      clear hQ1 Q1
      refine wpTail_step ?_
      intro Q1 hQ1
      go_wp2_with (fail)
      refine hQ1 _ _ rfl (fun h => absurd h (by decide)) ?_
      clear hQ1 Q1
      refine wpTail_nil ?_
      refine hQ0 _ _ ?_
      clear hQ0 Q0
      go_wp2_with fail
      have hL : s.lead k.data.toList = 0 := by unfold BB.lead; rw [if_pos hm]
      obtain ⟨n, hn⟩ : ∃ n : Nat, n = 0 := ⟨0, rfl⟩
      rw (occs := .pos [2]) [show (Value.int .i64 0) = Value.int .i64 ((n : Nat) : Int) from by rw [hn]; rfl]
      have hnk : n ≤ k.size := by omega
      have hL' := Lib.hid (show s.lead k.data.toList = n from by rw [hL, hn])
      obtain ⟨cs1, hcs1⟩ : ∃ c, c = cs.setIfInBounds (off + 1) (.slice A2 (s.starts.length + 1) c2') := ⟨_, rfl⟩
      have hBt := hB2.out.set_ (off + 1) (.slice A2 (s.starts.length + 1) c2')
      rw [← hcs1] at hBt
      have hOt := Lib.hid (own_set hO2.out hB2.out h.tb (o := off + 1) (u := .slice A2 (s.starts.length + 1) c2'))
      have hWt := Lib.hid (own_set ho2.out hB2.out h.tw (o := off + 1) (u := .slice A2 (s.starts.length + 1) c2'))
      have hKt := Lib.hid ((hk2.out.mono (S' := BS g (.slice Ab s.b.length cb) (.slice As s.starts.length cas)) (fun k _ e => .inr (.inr e))).then_set (b := g) (o := off + 1) (v := .slice A2 (s.starts.length + 1) c2') (.inl rfl))
      generalize w2.setCell ⟨g, off + 1, none⟩ (.slice A2 (s.starts.length + 1) c2') = W1 at *
      have q0 : cs1[off]? = some (.slice Ab s.b.length cb) := by rw [hcs1, Array.getElem?_setIfInBounds_ne (by omega)]; exact h.e0
      have q2 : cs1[off + 2]? = some (.int .i64 s.count) := by rw [hcs1, Array.getElem?_setIfInBounds_ne (by omega)]; exact h.e2
      have q3 : cs1[off + 3]? = some (.string (bs s.last)) := by rw [hcs1, Array.getElem?_setIfInBounds_ne (by omega)]; exact h.e3
      have hen : Hid ((bs (varL1 n) ++ bs (textL [k.data.toList.drop n, v.data.toList])).data.toList = s.enc k.data.toList v.data.toList) := by
        unfold BB.enc
        rw [hL'.out, bs_append, bs_data]
        exact rfl
      have hdr : Hid ((k.extract n k.size).data.toList = k.data.toList.drop n) := by
        have : (k.extract n k.size).data.toList = k.data.toList.drop n := by rw [ext_bs, bs_data, List.take_of_length_le]; simp [dlen]
        exact this
      have hgb := Lib.hid h.gb
      have hz11 : (k.extract n k.size).size ≤ 1099511627776 := by simp; omega
      have hzv : v.size ≤ 1099511627776 := by omega
      have hBW : B ≤ W1.heap.size := by have := hBt.lt; have := h.hB; omega
      have hep : Hid (0 < (s.enc k.data.toList v.data.toList).length) := s.enc_pos _ _
      have hzz : s.b.length + (bs (varL1 n) ++ bs (textL [k.data.toList.drop n, v.data.toList])).size ≤ 70368744177664 := by
        have h3 := s.enc_len k.data.toList v.data.toList
        rw [← hen.out, dlen, dlen, dlen] at h3
        omega
      replace hn := Lib.hid hn
      replace hL := Lib.hid hL
      have hcat : Hid (¬ 9223372036854775807 < (bs (varL1 n)).size + (bs (textL [k.data.toList.drop n, v.data.toList])).size) := by
        have : ¬ 9223372036854775807 < (bs (varL1 n)).size + (bs (textL [k.data.toList.drop n, v.data.toList])).size := by rw [ByteArray.size_append] at hzz; omega
        exact this
      have hnw : Hid (IntKind.u64.wrap ((n : Nat) : Int) = ((n : Nat) : Int)) := by
        have : IntKind.u64.wrap ((n : Nat) : Int) = ((n : Nat) : Int) := by rw [IntKind.wrap_u64]; omega
        exact this
      refine wp_region_task (fun d w' => JA W1 B g t off cs1 (.slice Ab s.b.length cb) (s.b ++ s.enc k.data.toList v.data.toList) (d 16) (d 19) w') (tauL [some (.pointer (some ⟨g, off, none⟩)), some (.pointer (some ⟨g, off, none⟩)), some (.pointer (some ⟨g, off, none⟩)), some (.pointer (some ⟨g, off, none⟩)), some (.slice Ab s.b.length cb), some (.int .i64 (n : Nat)), some (.int .u64 (n : Nat)), none, some (.string (bs (varL1 n))), some (.string k), some (.int .i64 (n : Nat)), some (.string (k.extract n k.size)), some (.string v), none, some (.string (bs (textL [k.data.toList.drop n, v.data.toList]))), some (.string (bs (varL1 n) ++ bs (textL [k.data.toList.drop n, v.data.toList]))), none, some (.pointer (some ⟨g, off, none⟩)), some (.pointer (some ⟨g, off, none⟩)), none] (SA W1 B n (k.extract n k.size) v (.slice Ab s.b.length cb) (s.b ++ s.enc k.data.toList v.data.toList))) (usL (List.replicate 19 undef)) ?m1a ?m2a ?m3a ?m4a (Below.refl _ _).drew ?m5a ?m6a
      case m1a => kernel_rfl
      case m2a => kernel_rfl
      case m3a => kernel_rfl
      case m4a => kernel_rfl
      case m5a =>
        refine ⟨?o0a, ?o1a, ?o2a, ?o3a, ?o4a, ?o5a, ?o6a, ?o7a, ?o8a, ?o9a, ?o10a, ?o11a, ?o12a, ?o13a, ?o14a, ?o15a, ?o16a, ?o17a, ?o18a, ?o19a, trivial⟩
        case o0a =>
          intro d us wx hd hJ hp hu hi
          refine .inl ⟨by kernel_rfl, fun K Q hK => ?_⟩
          simp only [putAll, Act.put, Nat.reduceAdd] at hK ⊢
          go_simp
          refine Eq.mp ?_ (hK (.pointer (some ⟨g, off, none⟩)) _ hJ rfl (fun _ _ _ h => h))
          kernel_rfl
        case o1a =>
          intro d us wx hd hJ hp hu hi
          refine .inl ⟨by kernel_rfl, fun K Q hK => ?_⟩
          simp only [putAll, Act.put, Nat.reduceAdd] at hK ⊢
          go_simp
          refine Eq.mp ?_ (hK (.pointer (some ⟨g, off, none⟩)) _ hJ rfl (fun _ _ _ h => h))
          kernel_rfl
        case o2a =>
          intro d us wx hd hJ hp hu hi
          have h1 : us 1 = _ := (hp 1 (by simp [Region.binds])).2
          refine .inl ⟨by kernel_rfl, fun K Q hK => ?_⟩
          simp only [putAll, Act.put, Nat.reduceAdd, h1] at hK ⊢
          go_simp
          refine Eq.mp ?_ (hK (.pointer (some ⟨g, off, none⟩)) _ hJ rfl (fun _ _ _ h => h))
          kernel_rfl
        case o3a =>
          intro d us wx hd hJ hp hu hi
          have h2 : us 2 = _ := (hp 2 (by simp [Region.binds])).2
          refine .inl ⟨by kernel_rfl, fun K Q hK => ?_⟩
          simp only [putAll, Act.put, Nat.reduceAdd, h2] at hK ⊢
          go_simp
          refine Eq.mp ?_ (hK (.pointer (some ⟨g, off, none⟩)) _ hJ rfl (fun _ _ _ h => h))
          kernel_rfl
        case o4a =>
          intro d us wx hd hJ hp hu hi
          have h3 : us 3 = _ := (hp 3 (by simp [Region.binds])).2
          have h16 := (hu 16 (by kernel_rfl)).1
          have h19 := (hu 19 (by kernel_rfl)).1
          have hBx := JA.of_ff h16 h19 hJ
          have z0 := ((hBt.below hBx hBt.lt).cell off).trans q0
          refine .inl ⟨by kernel_rfl, fun K Q hK => ?_⟩
          simp only [putAll, Act.put, Nat.reduceAdd, h3] at hK ⊢
          go_simp
          refine Eq.mp ?_ (hK (.slice Ab s.b.length cb) _ hJ rfl (fun _ _ _ h => h))
          kernel_rfl
        case o5a =>
          intro d us wx hd hJ hp hu hi
          refine .inl ⟨by kernel_rfl, fun K Q hK => ?_⟩
          simp only [putAll, Act.put, Nat.reduceAdd] at hK ⊢
          go_simp
          refine Eq.mp ?_ (hK (.int .i64 (n : Nat)) _ hJ rfl (fun _ _ _ h => h))
          kernel_rfl
        case o6a =>
          intro d us wx hd hJ hp hu hi
          have h5 : us 5 = _ := (hp 5 (by simp [Region.binds])).2
          refine .inl ⟨by kernel_rfl, fun K Q hK => ?_⟩
          simp only [putAll, Act.put, Nat.reduceAdd, h5] at hK ⊢
          go_simp
          rw [hnw.out]
          refine Eq.mp ?_ (hK (.int .u64 (n : Nat)) _ hJ rfl (fun _ _ _ h => h))
          kernel_rfl
        case o7a =>
          intro d us wx hd hJ hp hu hi
          have h6 : us 6 = _ := (hp 6 (by simp [Region.binds])).2
          have h16 := (hu 16 (by kernel_rfl)).1
          have h19 := (hu 19 (by kernel_rfl)).1
          have hBx := JA.of_ff h16 h19 hJ
          refine .inl ⟨by kernel_rfl, fun K Q hK => ?_⟩
          simp only [putAll, Act.put, Nat.reduceAdd, h6] at hK ⊢
          go_simp
          refine Eq.mp ?_ (hK (.slice (some ⟨wx.heap.size, 0, none⟩) 1 1) (wx.alloc (.cells #[.int .u64 (n : Nat)] 24)) (JA.ff h16 h19 (hBx.alloc hBx.size _)) ⟨wx.heap.size, rfl, hBx.size, (by rw [World.size_alloc]; omega), (by simp [go_sem])⟩ (fun k u _ h => tauL_mono (SA.mono ((Below.refl _ _).alloc (Nat.le_refl _) _)) k u h))
          kernel_rfl
        case o8a =>
          intro d us wx hd hJ hp hu hi
          have hs7 : SA W1 B n (k.extract n k.size) v (.slice Ab s.b.length cb) (s.b ++ s.enc k.data.toList v.data.toList) 7 (us 7) wx := (hp 7 (by simp [Region.binds])).2
          obtain ⟨b7, h7, hb7, hl7, hc7⟩ := hs7
          have h16 := (hu 16 (by kernel_rfl)).1
          have h19 := (hu 19 (by kernel_rfl)).1
          have hBx := JA.of_ff h16 h19 hJ
          refine .inl ⟨by kernel_rfl, fun K Q hK => ?_⟩
          simp only [putAll, Act.put, Nat.reduceAdd, h7] at hK ⊢
          go_simp
          go_at_call 52
          refine (Var_one b7 _ wx hl7 hc7 (by omega) (by omega)).mono ?_
          rintro e w9 ⟨rfl, hb9⟩
          refine Eq.mp ?_ (hK (.string (bs (varL1 n))) w9 (JA.ff h16 h19 (hBx.trans (hb9.mono hBx.size))) rfl (fun k u _ h => tauL_mono (SA.mono hb9) k u h))
          rw [Int.toNat_natCast]
          kernel_rfl
        case o9a =>
          intro d us wx hd hJ hp hu hi
          refine .inl ⟨by kernel_rfl, fun K Q hK => ?_⟩
          simp only [putAll, Act.put, Nat.reduceAdd] at hK ⊢
          go_simp
          refine Eq.mp ?_ (hK (.string k) _ hJ rfl (fun _ _ _ h => h))
          kernel_rfl
        case o10a =>
          intro d us wx hd hJ hp hu hi
          refine .inl ⟨by kernel_rfl, fun K Q hK => ?_⟩
          simp only [putAll, Act.put, Nat.reduceAdd] at hK ⊢
          go_simp
          refine Eq.mp ?_ (hK (.int .i64 (n : Nat)) _ hJ rfl (fun _ _ _ h => h))
          kernel_rfl
        case o11a =>
          intro d us wx hd hJ hp hu hi
          have h9 : us 9 = _ := (hp 9 (by simp [Region.binds])).2
          have h10 : us 10 = _ := (hp 10 (by simp [Region.binds])).2
          refine .inl ⟨by kernel_rfl, fun K Q hK => ?_⟩
          simp only [putAll, Act.put, Nat.reduceAdd, h9, h10] at hK ⊢
          go_simp
          refine Eq.mp ?_ (hK (.string (k.extract n k.size)) _ hJ rfl (fun _ _ _ h => h))
          kernel_rfl
        case o12a =>
          intro d us wx hd hJ hp hu hi
          refine .inl ⟨by kernel_rfl, fun K Q hK => ?_⟩
          simp only [putAll, Act.put, Nat.reduceAdd] at hK ⊢
          go_simp
          refine Eq.mp ?_ (hK (.string v) _ hJ rfl (fun _ _ _ h => h))
          kernel_rfl
        case o13a =>
          intro d us wx hd hJ hp hu hi
          have h11 : us 11 = _ := (hp 11 (by simp [Region.binds])).2
          have h12 : us 12 = _ := (hp 12 (by simp [Region.binds])).2
          have h16 := (hu 16 (by kernel_rfl)).1
          have h19 := (hu 19 (by kernel_rfl)).1
          have hBx := JA.of_ff h16 h19 hJ
          refine .inl ⟨by kernel_rfl, fun K Q hK => ?_⟩
          simp only [putAll, Act.put, Nat.reduceAdd, h11, h12] at hK ⊢
          go_simp
          refine Eq.mp ?_ (hK (.slice (some ⟨wx.heap.size, 0, none⟩) 2 2) (wx.alloc (.cells #[.string (k.extract n k.size), .string v] 9)) (JA.ff h16 h19 (hBx.alloc hBx.size _)) ⟨wx.heap.size, rfl, hBx.size, (by rw [World.size_alloc]; omega), ((Blk.new _ _ _).cell 0), ((Blk.new _ _ _).cell 1)⟩ (fun k u _ h => tauL_mono (SA.mono ((Below.refl _ _).alloc (Nat.le_refl _) _)) k u h))
          kernel_rfl
        case o14a =>
          intro d us wx hd hJ hp hu hi
          have hs13 : SA W1 B n (k.extract n k.size) v (.slice Ab s.b.length cb) (s.b ++ s.enc k.data.toList v.data.toList) 13 (us 13) wx := (hp 13 (by simp [Region.binds])).2
          obtain ⟨b13, h13, hb13, hl13, hc13, hd13⟩ := hs13
          have h16 := (hu 16 (by kernel_rfl)).1
          have h19 := (hu 19 (by kernel_rfl)).1
          have hBx := JA.of_ff h16 h19 hJ
          refine .inl ⟨by kernel_rfl, fun K Q hK => ?_⟩
          simp only [putAll, Act.put, Nat.reduceAdd, h13] at hK ⊢
          go_simp
          go_at_call 55
          refine (Text_two b13 _ _ wx hl13 hc13 hd13 hz11 hzv).mono ?_
          rintro e w9 ⟨rfl, hb9⟩
          refine Eq.mp ?_ (hK (.string (bs (textL [k.data.toList.drop n, v.data.toList]))) w9 (JA.ff h16 h19 (hBx.trans (hb9.mono hBx.size))) rfl (fun k u _ h => tauL_mono (SA.mono hb9) k u h))
          rw [hdr.out]
          kernel_rfl
        case o15a =>
          intro d us wx hd hJ hp hu hi
          have h8 : us 8 = _ := (hp 8 (by simp [Region.binds])).2
          have h14 : us 14 = _ := (hp 14 (by simp [Region.binds])).2
          refine .inl ⟨by kernel_rfl, fun K Q hK => ?_⟩
          simp only [putAll, Act.put, Nat.reduceAdd, h8, h14] at hK ⊢
          go_simp
          rw [if_neg hcat.out]
          go_simp
          refine Eq.mp ?_ (hK (.string (bs (varL1 n) ++ bs (textL [k.data.toList.drop n, v.data.toList]))) _ hJ rfl (fun _ _ _ h => h))
          kernel_rfl
        case o16a =>
          intro d us wx hd hJ hp hu hi
          have h4 : us 4 = _ := (hp 4 (by simp [Region.binds])).2
          have h15 : us 15 = _ := (hp 15 (by simp [Region.binds])).2
          have h16 := hd
          have h19 := (hu 19 (by kernel_rfl)).1
          have hBx := JA.of_ff h16 h19 hJ
          have hOx : OwnB wx B _ _ := own_block hOt.out (fun k hk => hBx.block k (own_lt hOt.out k hk).2)
          refine .inl ⟨by kernel_rfl, fun K Q hK => ?_⟩
          simp only [putAll, Act.put, Nat.reduceAdd, h4, h15] at hK ⊢
          refine wp_append_str (.tmp 65) (.tmp 76) rfl B _ s.b (by kernel_rfl) hOx (bs (varL1 n) ++ bs (textL [k.data.toList.drop n, v.data.toList])) (by kernel_rfl) hzz (by have := hBx.size; omega) ?_
          intro v9 w9 ho9 hg9 hat9
          rw [hen.out] at ho9
          have hk9 : KeptBut wx w9 (fun k => (Value.slice Ab s.b.length cb).ownBlock = some k) := (KeptBut.refl _ _).then_grown hg9 (fun k e => e)
          refine Eq.mp ?_ (hK v9 w9 (JA.tf h19 ((KeptBut.of_below hBx).trans hk9 (fun k _ e => e))) ⟨ho9, Moved.of_at (fun k hk => hat9 k hk) hBx.size ho9 (fun e => absurd e (own_some ho9 (by rw [List.length_append]; have := hep.out; omega)))⟩ (fun k u hk h => tauL_mono2 (SA.mono2 hk9 (fun k e => (own_lt hOt.out k e).2)) k u hk h))
          kernel_rfl
        case o17a =>
          intro d us wx hd hJ hp hu hi
          have h0 : us 0 = _ := (hp 0 (by simp [Region.binds])).2
          refine .inl ⟨by kernel_rfl, fun K Q hK => ?_⟩
          simp only [putAll, Act.put, Nat.reduceAdd, h0] at hK ⊢
          go_simp
          refine Eq.mp ?_ (hK (.pointer (some ⟨g, off, none⟩)) _ hJ rfl (fun _ _ _ h => h))
          kernel_rfl
        case o18a =>
          intro d us wx hd hJ hp hu hi
          have h17 : us 17 = _ := (hp 17 (by simp [Region.binds])).2
          refine .inl ⟨by kernel_rfl, fun K Q hK => ?_⟩
          simp only [putAll, Act.put, Nat.reduceAdd, h17] at hK ⊢
          go_simp
          refine Eq.mp ?_ (hK (.pointer (some ⟨g, off, none⟩)) _ hJ rfl (fun _ _ _ h => h))
          kernel_rfl
        case o19a =>
          intro d us wx hd hJ hp hu hi
          have h18 : us 18 = _ := (hp 18 (by simp [Region.binds])).2
          have hs16 : SA W1 B n (k.extract n k.size) v (.slice Ab s.b.length cb) (s.b ++ s.enc k.data.toList v.data.toList) 16 (us 16) wx := (hp 16 (by simp [Region.binds])).2
          obtain ⟨A9, c9, h16v⟩ := hs16.1.form
          rw [List.length_append] at h16v
          rw [h16v] at hs16
          have hd16 := (hp 16 (by simp [Region.binds])).1
          have hkx : KeptBut W1 wx _ := JA.of_tf hd (by have := hJ; rw [hd16] at this; exact this)
          have hBg := hBt.keptB hkx hgb.out
          have z0 := (hBg.cell off).trans q0
          have z1 := hBg.frozen off
          refine .inl ⟨by kernel_rfl, fun K Q hK => ?_⟩
          simp only [putAll, Act.put, Nat.reduceAdd, h18, h16v] at hK ⊢
          go_simp
          refine Eq.mp ?_ (hK (undef) (wx.setCell ⟨g, off, none⟩ (.slice A9 (s.b.length + (s.enc k.data.toList v.data.toList).length) c9)) (JA.tt hd16 ⟨_, own_set hs16.1 hBg h.tb, hs16.2, (hkx.mono (fun k _ e => .inr e)).then_set (.inl rfl), hBg.set_ off _⟩) trivial (fun k u _ h => tauL_mono (SA.mono3 hBt.lt hBg htb) k u h))
          kernel_rfl
      intro d us wx hJ hall
      have hd16 := (hall 16 (by simp)).1
      have hd19 := (hall 19 (by simp)).1
      obtain ⟨v9, ho9, hm9, hk9, hb9⟩ := JA.of_tt hd16 hd19 hJ
      simp only [putAll, Act.put, Nat.reduceAdd]
      have x2 : wx.cell? ⟨g, off + 2, none⟩ = some (.int .i64 s.count) := (hb9.cell (off + 2)).trans (by rw [Array.getElem?_setIfInBounds_ne (by omega)]; exact q2)
      have x3 : wx.cell? ⟨g, off + 3, none⟩ = some (.string (bs s.last)) := (hb9.cell (off + 3)).trans (by rw [Array.getElem?_setIfInBounds_ne (by omega)]; exact q3)
      have g2 := hb9.frozen (off + 2)
      have g3 := hb9.frozen (off + 3)
      clear hJ hall
      go_wp2_with fail
      go_ret
      refine ⟨rfl, h.put_end hcs1 hKt.out ?_ hm2.out ?_ ho9 hm9 hk9 hb9 ?_ ?_ ?_⟩
      · have : (s.put k.data.toList v.data.toList).starts = s.starts ++ [s.b.length] := by unfold BB.put; simp [hm]
        rw [this]
        exact hWt.out
      · exact own_blk_ne hWt.out hBt (fun e => h.tw e.symm)
      · exact own_types hOt.out hWt.out (by decide)
      · rw [bs_of]
      · first | rfl | (simp; done) | trace_state
    · have h0' : ¬ (0 : Int) < s.count := by omega
      clear hor hle
      go_enter Tryd.func32, Tryd.ntmps32
      go_wp2_with fail
      have hxc := @Ext.cell
      have hxf := @Ext.frozen
      refine wp_hide (fun Q0 hQ0 => ?_)
      refine wp_region_line (fun w' => ∃ x : Ext _, w' = x.w) [some true, some false, some false, some false, some false, some false, some false, some false, some false, some false, some false, none, none, none, none, none] 1 (by kernel_rfl) (by kernel_rfl) ⟨⟨_, (Below.refl _ _).drew⟩, rfl⟩ ?_
      simp only [earlyL, tailL]
      repeat (first | ((with_reducible refine wpMix_p ?_); go_big_quiet_step (fail); refine wpQuiet_nil ?_) | ((with_reducible refine wpMix_e ?_); go_big_quiet_step ((first | fail)); refine wpQuiet_nil ?_))
      refine wpMix_nil ?_
      clear hxc hxf
      intro wx hwx
      obtain ⟨x, hx⟩ := hwx
      have hb := x.below
      rw [← hx] at hb
      clear hx x
      have hbs := hb.size
      have hown := own_block h.os (fun k hk => hb.block k (own_lt h.os k hk).2)
      have hownx := World.ownsRow.alloc hown (.cells #[.int .u64 (s.b.length : Nat)] 24)
      have hrd := new_u64 wx (s.b.length : Nat) 24
      have hone : ∀ u ∈ [Value.int .u64 (s.b.length : Nat)], u.oneCell' = true := by
        intro u hu
        simp at hu
        subst hu
        rfl
      have hBx : B ≤ (wx.alloc (.cells #[.int .u64 (s.b.length : Nat)] 24)).heap.size := by rw [World.size_alloc]; omega
      replace hone := Lib.hid hone
      clear hown
      refine wpTail_step ?_
      intro Q1 hQ1
      go_wp2_with fail
      refine hQ1 _ _ rfl (fun _ => ⟨⟨_, hb.alloc hbs _⟩, rfl⟩) ?_
      clear hQ1 Q1
      refine wpTail_step ?_
      intro Q1 hQ1
      go_wp2_with (at_builtin; refine wpList_append_any _ rfl (.tmp 44) (.tmp 51) 62 rfl B 24 i0 (.int .u64 0) 1 8 Tryd.underlying62 hi0 hz0 hz1 hz2 rfl (by omega) (.slice As s.starts.length cas) s.starts.length (s.starts.map fun n => Value.int .u64 (n : Nat)) rfl hownx (wx.heap.size + 1) (some ⟨wx.heap.size, 0, none⟩) 1 1 [.int .u64 (s.b.length : Nat)] rfl hrd hone.out (by unfold maxLen; omega) (by omega) hBx ?_; intro v2 w2 hown2 hgr2 hat2)
      refine hQ1 _ _ rfl (fun h => absurd h (by decide)) ?_
      clear hQ1 Q1
      have ho2 := OwnW.of_law hown2
      obtain ⟨A2, c2', e2⟩ := ho2.form
      rw [List.length_append, List.length_singleton] at e2
      subst e2
      have hk2 : KeptBut w w2 (fun k => (Value.slice As s.starts.length cas).ownBlock = some k) := (KeptBut.of_below (hb.alloc hbs _)).then_grown hgr2 (fun k e => e)
      have hm2 : Moved w (.slice As s.starts.length cas) (.slice A2 (s.starts.length + 1) c2') := by
        rcases hat2 with e | e
        · exact .inl e
        · exact .inr ⟨_, e, by rw [World.size_alloc]; omega⟩
      have hB2 : Blk w2 g t cs := h.blk.keptB hk2 h.gs
      have hO2 : OwnB w2 B (.slice Ab s.b.length cb) s.b := own_kept h.ob hk2 h.nbs
      have y1 := hB2.frozen (off + 1)
      have y2 := (hB2.cell (off + 1)).trans h.e1
      replace hk2 := Lib.hid hk2
      replace hm2 := Lib.hid hm2
      replace hB2 := Lib.hid hB2
      replace hO2 := Lib.hid hO2
      replace ho2 := Lib.hid ho2
      clear hown2 hgr2 hat2 hownx hrd hone
      refine wpTail_step ?_
      intro Q1 hQ1
      go_wp2_with (fail)
      refine hQ1 _ _ rfl (fun h => absurd h (by decide)) ?_
      clear hQ1 Q1
      refine wpTail_step ?_
      intro Q1 hQ1
      go_wp2_with (fail)
      refine hQ1 _ _ rfl (fun h => absurd h (by decide)) ?_
      clear hQ1 Q1
      refine wpTail_step ?_
      intro Q1 hQ1
      go_wp2_with (fail)
      refine hQ1 _ _ rfl (fun h => absurd h (by decide)) ?_
      clear hQ1 Q1
      refine wpTail_nil ?_
      refine hQ0 _ _ ?_
      clear hQ0 Q0
      go_wp2_with fail
      have hL : s.lead k.data.toList = 0 := by unfold BB.lead; rw [if_pos hm]
      obtain ⟨n, hn⟩ : ∃ n : Nat, n = 0 := ⟨0, rfl⟩
      rw (occs := .pos [2]) [show (Value.int .i64 0) = Value.int .i64 ((n : Nat) : Int) from by rw [hn]; rfl]
      have hnk : n ≤ k.size := by omega
      have hL' := Lib.hid (show s.lead k.data.toList = n from by rw [hL, hn])
      obtain ⟨cs1, hcs1⟩ : ∃ c, c = cs.setIfInBounds (off + 1) (.slice A2 (s.starts.length + 1) c2') := ⟨_, rfl⟩
      have hBt := hB2.out.set_ (off + 1) (.slice A2 (s.starts.length + 1) c2')
      rw [← hcs1] at hBt
      have hOt := Lib.hid (own_set hO2.out hB2.out h.tb (o := off + 1) (u := .slice A2 (s.starts.length + 1) c2'))
      have hWt := Lib.hid (own_set ho2.out hB2.out h.tw (o := off + 1) (u := .slice A2 (s.starts.length + 1) c2'))
      have hKt := Lib.hid ((hk2.out.mono (S' := BS g (.slice Ab s.b.length cb) (.slice As s.starts.length cas)) (fun k _ e => .inr (.inr e))).then_set (b := g) (o := off + 1) (v := .slice A2 (s.starts.length + 1) c2') (.inl rfl))
      generalize w2.setCell ⟨g, off + 1, none⟩ (.slice A2 (s.starts.length + 1) c2') = W1 at *
      have q0 : cs1[off]? = some (.slice Ab s.b.length cb) := by rw [hcs1, Array.getElem?_setIfInBounds_ne (by omega)]; exact h.e0
      have q2 : cs1[off + 2]? = some (.int .i64 s.count) := by rw [hcs1, Array.getElem?_setIfInBounds_ne (by omega)]; exact h.e2
      have q3 : cs1[off + 3]? = some (.string (bs s.last)) := by rw [hcs1, Array.getElem?_setIfInBounds_ne (by omega)]; exact h.e3
      have hen : Hid ((bs (varL1 n) ++ bs (textL [k.data.toList.drop n, v.data.toList])).data.toList = s.enc k.data.toList v.data.toList) := by
        unfold BB.enc
        rw [hL'.out, bs_append, bs_data]
        exact rfl
      have hdr : Hid ((k.extract n k.size).data.toList = k.data.toList.drop n) := by
        have : (k.extract n k.size).data.toList = k.data.toList.drop n := by rw [ext_bs, bs_data, List.take_of_length_le]; simp [dlen]
        exact this
      have hgb := Lib.hid h.gb
      have hz11 : (k.extract n k.size).size ≤ 1099511627776 := by simp; omega
      have hzv : v.size ≤ 1099511627776 := by omega
      have hBW : B ≤ W1.heap.size := by have := hBt.lt; have := h.hB; omega
      have hep : Hid (0 < (s.enc k.data.toList v.data.toList).length) := s.enc_pos _ _
      have hzz : s.b.length + (bs (varL1 n) ++ bs (textL [k.data.toList.drop n, v.data.toList])).size ≤ 70368744177664 := by
        have h3 := s.enc_len k.data.toList v.data.toList
        rw [← hen.out, dlen, dlen, dlen] at h3
        omega
      replace hn := Lib.hid hn
      replace hL := Lib.hid hL
      have hcat : Hid (¬ 9223372036854775807 < (bs (varL1 n)).size + (bs (textL [k.data.toList.drop n, v.data.toList])).size) := by
        have : ¬ 9223372036854775807 < (bs (varL1 n)).size + (bs (textL [k.data.toList.drop n, v.data.toList])).size := by rw [ByteArray.size_append] at hzz; omega
        exact this
      have hnw : Hid (IntKind.u64.wrap ((n : Nat) : Int) = ((n : Nat) : Int)) := by
        have : IntKind.u64.wrap ((n : Nat) : Int) = ((n : Nat) : Int) := by rw [IntKind.wrap_u64]; omega
        exact this
      refine wp_region_task (fun d w' => JA W1 B g t off cs1 (.slice Ab s.b.length cb) (s.b ++ s.enc k.data.toList v.data.toList) (d 16) (d 19) w') (tauL [some (.pointer (some ⟨g, off, none⟩)), some (.pointer (some ⟨g, off, none⟩)), some (.pointer (some ⟨g, off, none⟩)), some (.pointer (some ⟨g, off, none⟩)), some (.slice Ab s.b.length cb), some (.int .i64 (n : Nat)), some (.int .u64 (n : Nat)), none, some (.string (bs (varL1 n))), some (.string k), some (.int .i64 (n : Nat)), some (.string (k.extract n k.size)), some (.string v), none, some (.string (bs (textL [k.data.toList.drop n, v.data.toList]))), some (.string (bs (varL1 n) ++ bs (textL [k.data.toList.drop n, v.data.toList]))), none, some (.pointer (some ⟨g, off, none⟩)), some (.pointer (some ⟨g, off, none⟩)), none] (SA W1 B n (k.extract n k.size) v (.slice Ab s.b.length cb) (s.b ++ s.enc k.data.toList v.data.toList))) (usL (List.replicate 19 undef)) ?m1b ?m2b ?m3b ?m4b (Below.refl _ _).drew ?m5b ?m6b
      case m1b => kernel_rfl
      case m2b => kernel_rfl
      case m3b => kernel_rfl
      case m4b => kernel_rfl
      case m5b =>
        refine ⟨?o0b, ?o1b, ?o2b, ?o3b, ?o4b, ?o5b, ?o6b, ?o7b, ?o8b, ?o9b, ?o10b, ?o11b, ?o12b, ?o13b, ?o14b, ?o15b, ?o16b, ?o17b, ?o18b, ?o19b, trivial⟩
        case o0b =>
          intro d us wx hd hJ hp hu hi
          refine .inl ⟨by kernel_rfl, fun K Q hK => ?_⟩
          simp only [putAll, Act.put, Nat.reduceAdd] at hK ⊢
          go_simp
          refine Eq.mp ?_ (hK (.pointer (some ⟨g, off, none⟩)) _ hJ rfl (fun _ _ _ h => h))
          kernel_rfl
        case o1b =>
          intro d us wx hd hJ hp hu hi
          refine .inl ⟨by kernel_rfl, fun K Q hK => ?_⟩
          simp only [putAll, Act.put, Nat.reduceAdd] at hK ⊢
          go_simp
          refine Eq.mp ?_ (hK (.pointer (some ⟨g, off, none⟩)) _ hJ rfl (fun _ _ _ h => h))
          kernel_rfl
        case o2b =>
          intro d us wx hd hJ hp hu hi
          have h1 : us 1 = _ := (hp 1 (by simp [Region.binds])).2
          refine .inl ⟨by kernel_rfl, fun K Q hK => ?_⟩
          simp only [putAll, Act.put, Nat.reduceAdd, h1] at hK ⊢
          go_simp
          refine Eq.mp ?_ (hK (.pointer (some ⟨g, off, none⟩)) _ hJ rfl (fun _ _ _ h => h))
          kernel_rfl
        case o3b =>
          intro d us wx hd hJ hp hu hi
          have h2 : us 2 = _ := (hp 2 (by simp [Region.binds])).2
          refine .inl ⟨by kernel_rfl, fun K Q hK => ?_⟩
          simp only [putAll, Act.put, Nat.reduceAdd, h2] at hK ⊢
          go_simp
          refine Eq.mp ?_ (hK (.pointer (some ⟨g, off, none⟩)) _ hJ rfl (fun _ _ _ h => h))
          kernel_rfl
        case o4b =>
          intro d us wx hd hJ hp hu hi
          have h3 : us 3 = _ := (hp 3 (by simp [Region.binds])).2
          have h16 := (hu 16 (by kernel_rfl)).1
          have h19 := (hu 19 (by kernel_rfl)).1
          have hBx := JA.of_ff h16 h19 hJ
          have z0 := ((hBt.below hBx hBt.lt).cell off).trans q0
          refine .inl ⟨by kernel_rfl, fun K Q hK => ?_⟩
          simp only [putAll, Act.put, Nat.reduceAdd, h3] at hK ⊢
          go_simp
          refine Eq.mp ?_ (hK (.slice Ab s.b.length cb) _ hJ rfl (fun _ _ _ h => h))
          kernel_rfl
        case o5b =>
          intro d us wx hd hJ hp hu hi
          refine .inl ⟨by kernel_rfl, fun K Q hK => ?_⟩
          simp only [putAll, Act.put, Nat.reduceAdd] at hK ⊢
          go_simp
          refine Eq.mp ?_ (hK (.int .i64 (n : Nat)) _ hJ rfl (fun _ _ _ h => h))
          kernel_rfl
        case o6b =>
          intro d us wx hd hJ hp hu hi
          have h5 : us 5 = _ := (hp 5 (by simp [Region.binds])).2
          refine .inl ⟨by kernel_rfl, fun K Q hK => ?_⟩
          simp only [putAll, Act.put, Nat.reduceAdd, h5] at hK ⊢
          go_simp
          rw [hnw.out]
          refine Eq.mp ?_ (hK (.int .u64 (n : Nat)) _ hJ rfl (fun _ _ _ h => h))
          kernel_rfl
        case o7b =>
          intro d us wx hd hJ hp hu hi
          have h6 : us 6 = _ := (hp 6 (by simp [Region.binds])).2
          have h16 := (hu 16 (by kernel_rfl)).1
          have h19 := (hu 19 (by kernel_rfl)).1
          have hBx := JA.of_ff h16 h19 hJ
          refine .inl ⟨by kernel_rfl, fun K Q hK => ?_⟩
          simp only [putAll, Act.put, Nat.reduceAdd, h6] at hK ⊢
          go_simp
          refine Eq.mp ?_ (hK (.slice (some ⟨wx.heap.size, 0, none⟩) 1 1) (wx.alloc (.cells #[.int .u64 (n : Nat)] 24)) (JA.ff h16 h19 (hBx.alloc hBx.size _)) ⟨wx.heap.size, rfl, hBx.size, (by rw [World.size_alloc]; omega), (by simp [go_sem])⟩ (fun k u _ h => tauL_mono (SA.mono ((Below.refl _ _).alloc (Nat.le_refl _) _)) k u h))
          kernel_rfl
        case o8b =>
          intro d us wx hd hJ hp hu hi
          have hs7 : SA W1 B n (k.extract n k.size) v (.slice Ab s.b.length cb) (s.b ++ s.enc k.data.toList v.data.toList) 7 (us 7) wx := (hp 7 (by simp [Region.binds])).2
          obtain ⟨b7, h7, hb7, hl7, hc7⟩ := hs7
          have h16 := (hu 16 (by kernel_rfl)).1
          have h19 := (hu 19 (by kernel_rfl)).1
          have hBx := JA.of_ff h16 h19 hJ
          refine .inl ⟨by kernel_rfl, fun K Q hK => ?_⟩
          simp only [putAll, Act.put, Nat.reduceAdd, h7] at hK ⊢
          go_simp
          go_at_call 52
          refine (Var_one b7 _ wx hl7 hc7 (by omega) (by omega)).mono ?_
          rintro e w9 ⟨rfl, hb9⟩
          refine Eq.mp ?_ (hK (.string (bs (varL1 n))) w9 (JA.ff h16 h19 (hBx.trans (hb9.mono hBx.size))) rfl (fun k u _ h => tauL_mono (SA.mono hb9) k u h))
          rw [Int.toNat_natCast]
          kernel_rfl
        case o9b =>
          intro d us wx hd hJ hp hu hi
          refine .inl ⟨by kernel_rfl, fun K Q hK => ?_⟩
          simp only [putAll, Act.put, Nat.reduceAdd] at hK ⊢
          go_simp
          refine Eq.mp ?_ (hK (.string k) _ hJ rfl (fun _ _ _ h => h))
          kernel_rfl
        case o10b =>
          intro d us wx hd hJ hp hu hi
          refine .inl ⟨by kernel_rfl, fun K Q hK => ?_⟩
          simp only [putAll, Act.put, Nat.reduceAdd] at hK ⊢
          go_simp
          refine Eq.mp ?_ (hK (.int .i64 (n : Nat)) _ hJ rfl (fun _ _ _ h => h))
          kernel_rfl
        case o11b =>
          intro d us wx hd hJ hp hu hi
          have h9 : us 9 = _ := (hp 9 (by simp [Region.binds])).2
          have h10 : us 10 = _ := (hp 10 (by simp [Region.binds])).2
          refine .inl ⟨by kernel_rfl, fun K Q hK => ?_⟩
          simp only [putAll, Act.put, Nat.reduceAdd, h9, h10] at hK ⊢
          go_simp
          refine Eq.mp ?_ (hK (.string (k.extract n k.size)) _ hJ rfl (fun _ _ _ h => h))
          kernel_rfl
        case o12b =>
          intro d us wx hd hJ hp hu hi
          refine .inl ⟨by kernel_rfl, fun K Q hK => ?_⟩
          simp only [putAll, Act.put, Nat.reduceAdd] at hK ⊢
          go_simp
          refine Eq.mp ?_ (hK (.string v) _ hJ rfl (fun _ _ _ h => h))
          kernel_rfl
        case o13b =>
          intro d us wx hd hJ hp hu hi
          have h11 : us 11 = _ := (hp 11 (by simp [Region.binds])).2
          have h12 : us 12 = _ := (hp 12 (by simp [Region.binds])).2
          have h16 := (hu 16 (by kernel_rfl)).1
          have h19 := (hu 19 (by kernel_rfl)).1
          have hBx := JA.of_ff h16 h19 hJ
          refine .inl ⟨by kernel_rfl, fun K Q hK => ?_⟩
          simp only [putAll, Act.put, Nat.reduceAdd, h11, h12] at hK ⊢
          go_simp
          refine Eq.mp ?_ (hK (.slice (some ⟨wx.heap.size, 0, none⟩) 2 2) (wx.alloc (.cells #[.string (k.extract n k.size), .string v] 9)) (JA.ff h16 h19 (hBx.alloc hBx.size _)) ⟨wx.heap.size, rfl, hBx.size, (by rw [World.size_alloc]; omega), ((Blk.new _ _ _).cell 0), ((Blk.new _ _ _).cell 1)⟩ (fun k u _ h => tauL_mono (SA.mono ((Below.refl _ _).alloc (Nat.le_refl _) _)) k u h))
          kernel_rfl
        case o14b =>
          intro d us wx hd hJ hp hu hi
          have hs13 : SA W1 B n (k.extract n k.size) v (.slice Ab s.b.length cb) (s.b ++ s.enc k.data.toList v.data.toList) 13 (us 13) wx := (hp 13 (by simp [Region.binds])).2
          obtain ⟨b13, h13, hb13, hl13, hc13, hd13⟩ := hs13
          have h16 := (hu 16 (by kernel_rfl)).1
          have h19 := (hu 19 (by kernel_rfl)).1
          have hBx := JA.of_ff h16 h19 hJ
          refine .inl ⟨by kernel_rfl, fun K Q hK => ?_⟩
          simp only [putAll, Act.put, Nat.reduceAdd, h13] at hK ⊢
          go_simp
          go_at_call 55
          refine (Text_two b13 _ _ wx hl13 hc13 hd13 hz11 hzv).mono ?_
          rintro e w9 ⟨rfl, hb9⟩
          refine Eq.mp ?_ (hK (.string (bs (textL [k.data.toList.drop n, v.data.toList]))) w9 (JA.ff h16 h19 (hBx.trans (hb9.mono hBx.size))) rfl (fun k u _ h => tauL_mono (SA.mono hb9) k u h))
          rw [hdr.out]
          kernel_rfl
        case o15b =>
          intro d us wx hd hJ hp hu hi
          have h8 : us 8 = _ := (hp 8 (by simp [Region.binds])).2
          have h14 : us 14 = _ := (hp 14 (by simp [Region.binds])).2
          refine .inl ⟨by kernel_rfl, fun K Q hK => ?_⟩
          simp only [putAll, Act.put, Nat.reduceAdd, h8, h14] at hK ⊢
          go_simp
          rw [if_neg hcat.out]
          go_simp
          refine Eq.mp ?_ (hK (.string (bs (varL1 n) ++ bs (textL [k.data.toList.drop n, v.data.toList]))) _ hJ rfl (fun _ _ _ h => h))
          kernel_rfl
        case o16b =>
          intro d us wx hd hJ hp hu hi
          have h4 : us 4 = _ := (hp 4 (by simp [Region.binds])).2
          have h15 : us 15 = _ := (hp 15 (by simp [Region.binds])).2
          have h16 := hd
          have h19 := (hu 19 (by kernel_rfl)).1
          have hBx := JA.of_ff h16 h19 hJ
          have hOx : OwnB wx B _ _ := own_block hOt.out (fun k hk => hBx.block k (own_lt hOt.out k hk).2)
          refine .inl ⟨by kernel_rfl, fun K Q hK => ?_⟩
          simp only [putAll, Act.put, Nat.reduceAdd, h4, h15] at hK ⊢
          refine wp_append_str (.tmp 65) (.tmp 76) rfl B _ s.b (by kernel_rfl) hOx (bs (varL1 n) ++ bs (textL [k.data.toList.drop n, v.data.toList])) (by kernel_rfl) hzz (by have := hBx.size; omega) ?_
          intro v9 w9 ho9 hg9 hat9
          rw [hen.out] at ho9
          have hk9 : KeptBut wx w9 (fun k => (Value.slice Ab s.b.length cb).ownBlock = some k) := (KeptBut.refl _ _).then_grown hg9 (fun k e => e)
          refine Eq.mp ?_ (hK v9 w9 (JA.tf h19 ((KeptBut.of_below hBx).trans hk9 (fun k _ e => e))) ⟨ho9, Moved.of_at (fun k hk => hat9 k hk) hBx.size ho9 (fun e => absurd e (own_some ho9 (by rw [List.length_append]; have := hep.out; omega)))⟩ (fun k u hk h => tauL_mono2 (SA.mono2 hk9 (fun k e => (own_lt hOt.out k e).2)) k u hk h))
          kernel_rfl
        case o17b =>
          intro d us wx hd hJ hp hu hi
          have h0 : us 0 = _ := (hp 0 (by simp [Region.binds])).2
          refine .inl ⟨by kernel_rfl, fun K Q hK => ?_⟩
          simp only [putAll, Act.put, Nat.reduceAdd, h0] at hK ⊢
          go_simp
          refine Eq.mp ?_ (hK (.pointer (some ⟨g, off, none⟩)) _ hJ rfl (fun _ _ _ h => h))
          kernel_rfl
        case o18b =>
          intro d us wx hd hJ hp hu hi
          have h17 : us 17 = _ := (hp 17 (by simp [Region.binds])).2
          refine .inl ⟨by kernel_rfl, fun K Q hK => ?_⟩
          simp only [putAll, Act.put, Nat.reduceAdd, h17] at hK ⊢
          go_simp
          refine Eq.mp ?_ (hK (.pointer (some ⟨g, off, none⟩)) _ hJ rfl (fun _ _ _ h => h))
          kernel_rfl
        case o19b =>
          intro d us wx hd hJ hp hu hi
          have h18 : us 18 = _ := (hp 18 (by simp [Region.binds])).2
          have hs16 : SA W1 B n (k.extract n k.size) v (.slice Ab s.b.length cb) (s.b ++ s.enc k.data.toList v.data.toList) 16 (us 16) wx := (hp 16 (by simp [Region.binds])).2
          obtain ⟨A9, c9, h16v⟩ := hs16.1.form
          rw [List.length_append] at h16v
          rw [h16v] at hs16
          have hd16 := (hp 16 (by simp [Region.binds])).1
          have hkx : KeptBut W1 wx _ := JA.of_tf hd (by have := hJ; rw [hd16] at this; exact this)
          have hBg := hBt.keptB hkx hgb.out
          have z0 := (hBg.cell off).trans q0
          have z1 := hBg.frozen off
          refine .inl ⟨by kernel_rfl, fun K Q hK => ?_⟩
          simp only [putAll, Act.put, Nat.reduceAdd, h18, h16v] at hK ⊢
          go_simp
          refine Eq.mp ?_ (hK (undef) (wx.setCell ⟨g, off, none⟩ (.slice A9 (s.b.length + (s.enc k.data.toList v.data.toList).length) c9)) (JA.tt hd16 ⟨_, own_set hs16.1 hBg h.tb, hs16.2, (hkx.mono (fun k _ e => .inr e)).then_set (.inl rfl), hBg.set_ off _⟩) trivial (fun k u _ h => tauL_mono (SA.mono3 hBt.lt hBg htb) k u h))
          kernel_rfl
      intro d us wx hJ hall
      have hd16 := (hall 16 (by simp)).1
      have hd19 := (hall 19 (by simp)).1
      obtain ⟨v9, ho9, hm9, hk9, hb9⟩ := JA.of_tt hd16 hd19 hJ
      simp only [putAll, Act.put, Nat.reduceAdd]
      have x2 : wx.cell? ⟨g, off + 2, none⟩ = some (.int .i64 s.count) := (hb9.cell (off + 2)).trans (by rw [Array.getElem?_setIfInBounds_ne (by omega)]; exact q2)
      have x3 : wx.cell? ⟨g, off + 3, none⟩ = some (.string (bs s.last)) := (hb9.cell (off + 3)).trans (by rw [Array.getElem?_setIfInBounds_ne (by omega)]; exact q3)
      have g2 := hb9.frozen (off + 2)
      have g3 := hb9.frozen (off + 3)
      clear hJ hall
      go_wp2_with fail
      go_ret
      refine ⟨rfl, h.put_end hcs1 hKt.out ?_ hm2.out ?_ ho9 hm9 hk9 hb9 ?_ ?_ ?_⟩
      · have : (s.put k.data.toList v.data.toList).starts = s.starts ++ [s.b.length] := by unfold BB.put; simp [hm]
        rw [this]
        exact hWt.out
      · exact own_blk_ne hWt.out hBt (fun e => h.tw e.symm)
      · exact own_types hOt.out hWt.out (by decide)
      · rw [bs_of]
      · first | rfl | (simp; done) | trace_state
  · have hm' : ¬ (s.count : Int) % 4 = 0 := by omega
    have h0 : 0 < s.count := by
      rcases Nat.eq_zero_or_pos s.count with h0 | h0
      · rw [h0] at hm; simp at hm
      · exact h0
    have h0' : (0 : Int) < s.count := by omega
    have hl : lessL s.last k.data.toList = true := by
      rcases hq : lessL s.last k.data.toList with _ | _
      · exact absurd ⟨h0, hq⟩ hor
      · rfl
    rw [hl] at hle
    clear hl hor
    have hsh := shared_any (bs s.last) k w (by rw [bs_size]; exact hla)
    rw [bs_data] at hsh
    have hL' : s.lead k.data.toList = sharedL s.last k.data.toList := by unfold BB.lead; rw [if_neg hm]
    have hnk := (sharedL_le s.last k.data.toList).2
    rw [hlk.out] at hnk
    generalize sharedL s.last k.data.toList = n at *
    replace hsh := Lib.hid hsh
    replace hL' := Lib.hid hL'
    go_enter Tryd.func32, Tryd.ntmps32
    go_wp2_with fail
    refine hsh.out.mono ?_
    rintro e W1 ⟨rfl, hb1⟩
    go_wp2_with fail
    obtain ⟨cs1, hcs1⟩ : ∃ c, c = cs.setIfInBounds (off + 1) (.slice As s.starts.length cas) := ⟨_, rfl⟩
    have hcs2 : cs1 = cs := hcs1.trans (set_self_get h.e1)
    have h1 := h.below hb1
    have hBt := h1.blk
    rw [← hcs2] at hBt
    have hOt := Lib.hid h1.ob
    have hWt := Lib.hid h1.os
    have hKt := Lib.hid (KeptBut.of_below hb1 (S := BS g (.slice Ab s.b.length cb) (.slice As s.starts.length cas)))
    have q0 : cs1[off]? = some (.slice Ab s.b.length cb) := by rw [hcs2]; exact h.e0
    have q2 : cs1[off + 2]? = some (.int .i64 s.count) := by rw [hcs2]; exact h.e2
    have q3 : cs1[off + 3]? = some (.string (bs s.last)) := by rw [hcs2]; exact h.e3
    have hn := hnk
    have hL := hL'
    replace hcs2 := Lib.hid hcs2
    replace hb1 := Lib.hid hb1
    have hen : Hid ((bs (varL1 n) ++ bs (textL [k.data.toList.drop n, v.data.toList])).data.toList = s.enc k.data.toList v.data.toList) := by
      unfold BB.enc
      rw [hL'.out, bs_append, bs_data]
      exact rfl
    have hdr : Hid ((k.extract n k.size).data.toList = k.data.toList.drop n) := by
      have : (k.extract n k.size).data.toList = k.data.toList.drop n := by rw [ext_bs, bs_data, List.take_of_length_le]; simp [dlen]
      exact this
    have hgb := Lib.hid h.gb
    have hz11 : (k.extract n k.size).size ≤ 1099511627776 := by simp; omega
    have hzv : v.size ≤ 1099511627776 := by omega
    have hBW : B ≤ W1.heap.size := by have := hBt.lt; have := h.hB; omega
    have hep : Hid (0 < (s.enc k.data.toList v.data.toList).length) := s.enc_pos _ _
    have hzz : s.b.length + (bs (varL1 n) ++ bs (textL [k.data.toList.drop n, v.data.toList])).size ≤ 70368744177664 := by
      have h3 := s.enc_len k.data.toList v.data.toList
      rw [← hen.out, dlen, dlen, dlen] at h3
      omega
    replace hn := Lib.hid hn
    replace hL := Lib.hid hL
    have hcat : Hid (¬ 9223372036854775807 < (bs (varL1 n)).size + (bs (textL [k.data.toList.drop n, v.data.toList])).size) := by
      have : ¬ 9223372036854775807 < (bs (varL1 n)).size + (bs (textL [k.data.toList.drop n, v.data.toList])).size := by rw [ByteArray.size_append] at hzz; omega
      exact this
    have hnw : Hid (IntKind.u64.wrap ((n : Nat) : Int) = ((n : Nat) : Int)) := by
      have : IntKind.u64.wrap ((n : Nat) : Int) = ((n : Nat) : Int) := by rw [IntKind.wrap_u64]; omega
      exact this
    refine wp_region_task (fun d w' => JA W1 B g t off cs1 (.slice Ab s.b.length cb) (s.b ++ s.enc k.data.toList v.data.toList) (d 16) (d 19) w') (tauL [some (.pointer (some ⟨g, off, none⟩)), some (.pointer (some ⟨g, off, none⟩)), some (.pointer (some ⟨g, off, none⟩)), some (.pointer (some ⟨g, off, none⟩)), some (.slice Ab s.b.length cb), some (.int .i64 (n : Nat)), some (.int .u64 (n : Nat)), none, some (.string (bs (varL1 n))), some (.string k), some (.int .i64 (n : Nat)), some (.string (k.extract n k.size)), some (.string v), none, some (.string (bs (textL [k.data.toList.drop n, v.data.toList]))), some (.string (bs (varL1 n) ++ bs (textL [k.data.toList.drop n, v.data.toList]))), none, some (.pointer (some ⟨g, off, none⟩)), some (.pointer (some ⟨g, off, none⟩)), none] (SA W1 B n (k.extract n k.size) v (.slice Ab s.b.length cb) (s.b ++ s.enc k.data.toList v.data.toList))) (usL (List.replicate 19 undef)) ?m1c ?m2c ?m3c ?m4c (Below.refl _ _).drew ?m5c ?m6c
    case m1c => kernel_rfl
    case m2c => kernel_rfl
    case m3c => kernel_rfl
    case m4c => kernel_rfl
    case m5c =>
      refine ⟨?o0c, ?o1c, ?o2c, ?o3c, ?o4c, ?o5c, ?o6c, ?o7c, ?o8c, ?o9c, ?o10c, ?o11c, ?o12c, ?o13c, ?o14c, ?o15c, ?o16c, ?o17c, ?o18c, ?o19c, trivial⟩
      case o0c =>
        intro d us wx hd hJ hp hu hi
        refine .inl ⟨by kernel_rfl, fun K Q hK => ?_⟩
        simp only [putAll, Act.put, Nat.reduceAdd] at hK ⊢
        go_simp
        refine Eq.mp ?_ (hK (.pointer (some ⟨g, off, none⟩)) _ hJ rfl (fun _ _ _ h => h))
        kernel_rfl
      case o1c =>
        intro d us wx hd hJ hp hu hi
        refine .inl ⟨by kernel_rfl, fun K Q hK => ?_⟩
        simp only [putAll, Act.put, Nat.reduceAdd] at hK ⊢
        go_simp
        refine Eq.mp ?_ (hK (.pointer (some ⟨g, off, none⟩)) _ hJ rfl (fun _ _ _ h => h))
        kernel_rfl
      case o2c =>
        intro d us wx hd hJ hp hu hi
        have h1 : us 1 = _ := (hp 1 (by simp [Region.binds])).2
        refine .inl ⟨by kernel_rfl, fun K Q hK => ?_⟩
        simp only [putAll, Act.put, Nat.reduceAdd, h1] at hK ⊢
        go_simp
        refine Eq.mp ?_ (hK (.pointer (some ⟨g, off, none⟩)) _ hJ rfl (fun _ _ _ h => h))
        kernel_rfl
      case o3c =>
        intro d us wx hd hJ hp hu hi
        have h2 : us 2 = _ := (hp 2 (by simp [Region.binds])).2
        refine .inl ⟨by kernel_rfl, fun K Q hK => ?_⟩
        simp only [putAll, Act.put, Nat.reduceAdd, h2] at hK ⊢
        go_simp
        refine Eq.mp ?_ (hK (.pointer (some ⟨g, off, none⟩)) _ hJ rfl (fun _ _ _ h => h))
        kernel_rfl
      case o4c =>
        intro d us wx hd hJ hp hu hi
        have h3 : us 3 = _ := (hp 3 (by simp [Region.binds])).2
        have h16 := (hu 16 (by kernel_rfl)).1
        have h19 := (hu 19 (by kernel_rfl)).1
        have hBx := JA.of_ff h16 h19 hJ
        have z0 := ((hBt.below hBx hBt.lt).cell off).trans q0
        refine .inl ⟨by kernel_rfl, fun K Q hK => ?_⟩
        simp only [putAll, Act.put, Nat.reduceAdd, h3] at hK ⊢
        go_simp
        refine Eq.mp ?_ (hK (.slice Ab s.b.length cb) _ hJ rfl (fun _ _ _ h => h))
        kernel_rfl
      case o5c =>
        intro d us wx hd hJ hp hu hi
        refine .inl ⟨by kernel_rfl, fun K Q hK => ?_⟩
        simp only [putAll, Act.put, Nat.reduceAdd] at hK ⊢
        go_simp
        refine Eq.mp ?_ (hK (.int .i64 (n : Nat)) _ hJ rfl (fun _ _ _ h => h))
        kernel_rfl
      case o6c =>
        intro d us wx hd hJ hp hu hi
        have h5 : us 5 = _ := (hp 5 (by simp [Region.binds])).2
        refine .inl ⟨by kernel_rfl, fun K Q hK => ?_⟩
        simp only [putAll, Act.put, Nat.reduceAdd, h5] at hK ⊢
        go_simp
        rw [hnw.out]
        refine Eq.mp ?_ (hK (.int .u64 (n : Nat)) _ hJ rfl (fun _ _ _ h => h))
        kernel_rfl
      case o7c =>
        intro d us wx hd hJ hp hu hi
        have h6 : us 6 = _ := (hp 6 (by simp [Region.binds])).2
        have h16 := (hu 16 (by kernel_rfl)).1
        have h19 := (hu 19 (by kernel_rfl)).1
        have hBx := JA.of_ff h16 h19 hJ
        refine .inl ⟨by kernel_rfl, fun K Q hK => ?_⟩
        simp only [putAll, Act.put, Nat.reduceAdd, h6] at hK ⊢
        go_simp
        refine Eq.mp ?_ (hK (.slice (some ⟨wx.heap.size, 0, none⟩) 1 1) (wx.alloc (.cells #[.int .u64 (n : Nat)] 24)) (JA.ff h16 h19 (hBx.alloc hBx.size _)) ⟨wx.heap.size, rfl, hBx.size, (by rw [World.size_alloc]; omega), (by simp [go_sem])⟩ (fun k u _ h => tauL_mono (SA.mono ((Below.refl _ _).alloc (Nat.le_refl _) _)) k u h))
        kernel_rfl
      case o8c =>
        intro d us wx hd hJ hp hu hi
        have hs7 : SA W1 B n (k.extract n k.size) v (.slice Ab s.b.length cb) (s.b ++ s.enc k.data.toList v.data.toList) 7 (us 7) wx := (hp 7 (by simp [Region.binds])).2
        obtain ⟨b7, h7, hb7, hl7, hc7⟩ := hs7
        have h16 := (hu 16 (by kernel_rfl)).1
        have h19 := (hu 19 (by kernel_rfl)).1
        have hBx := JA.of_ff h16 h19 hJ
        refine .inl ⟨by kernel_rfl, fun K Q hK => ?_⟩
        simp only [putAll, Act.put, Nat.reduceAdd, h7] at hK ⊢
        go_simp
        go_at_call 52
        refine (Var_one b7 _ wx hl7 hc7 (by omega) (by omega)).mono ?_
        rintro e w9 ⟨rfl, hb9⟩
        refine Eq.mp ?_ (hK (.string (bs (varL1 n))) w9 (JA.ff h16 h19 (hBx.trans (hb9.mono hBx.size))) rfl (fun k u _ h => tauL_mono (SA.mono hb9) k u h))
        rw [Int.toNat_natCast]
        kernel_rfl
      case o9c =>
        intro d us wx hd hJ hp hu hi
        refine .inl ⟨by kernel_rfl, fun K Q hK => ?_⟩
        simp only [putAll, Act.put, Nat.reduceAdd] at hK ⊢
        go_simp
        refine Eq.mp ?_ (hK (.string k) _ hJ rfl (fun _ _ _ h => h))
        kernel_rfl
      case o10c =>
        intro d us wx hd hJ hp hu hi
        refine .inl ⟨by kernel_rfl, fun K Q hK => ?_⟩
        simp only [putAll, Act.put, Nat.reduceAdd] at hK ⊢
        go_simp
        refine Eq.mp ?_ (hK (.int .i64 (n : Nat)) _ hJ rfl (fun _ _ _ h => h))
        kernel_rfl
      case o11c =>
        intro d us wx hd hJ hp hu hi
        have h9 : us 9 = _ := (hp 9 (by simp [Region.binds])).2
        have h10 : us 10 = _ := (hp 10 (by simp [Region.binds])).2
        refine .inl ⟨by kernel_rfl, fun K Q hK => ?_⟩
        simp only [putAll, Act.put, Nat.reduceAdd, h9, h10] at hK ⊢
        go_simp
        refine Eq.mp ?_ (hK (.string (k.extract n k.size)) _ hJ rfl (fun _ _ _ h => h))
        kernel_rfl
      case o12c =>
        intro d us wx hd hJ hp hu hi
        refine .inl ⟨by kernel_rfl, fun K Q hK => ?_⟩
        simp only [putAll, Act.put, Nat.reduceAdd] at hK ⊢
        go_simp
        refine Eq.mp ?_ (hK (.string v) _ hJ rfl (fun _ _ _ h => h))
        kernel_rfl
      case o13c =>
        intro d us wx hd hJ hp hu hi
        have h11 : us 11 = _ := (hp 11 (by simp [Region.binds])).2
        have h12 : us 12 = _ := (hp 12 (by simp [Region.binds])).2
        have h16 := (hu 16 (by kernel_rfl)).1
        have h19 := (hu 19 (by kernel_rfl)).1
        have hBx := JA.of_ff h16 h19 hJ
        refine .inl ⟨by kernel_rfl, fun K Q hK => ?_⟩
        simp only [putAll, Act.put, Nat.reduceAdd, h11, h12] at hK ⊢
        go_simp
        refine Eq.mp ?_ (hK (.slice (some ⟨wx.heap.size, 0, none⟩) 2 2) (wx.alloc (.cells #[.string (k.extract n k.size), .string v] 9)) (JA.ff h16 h19 (hBx.alloc hBx.size _)) ⟨wx.heap.size, rfl, hBx.size, (by rw [World.size_alloc]; omega), ((Blk.new _ _ _).cell 0), ((Blk.new _ _ _).cell 1)⟩ (fun k u _ h => tauL_mono (SA.mono ((Below.refl _ _).alloc (Nat.le_refl _) _)) k u h))
        kernel_rfl
      case o14c =>
        intro d us wx hd hJ hp hu hi
        have hs13 : SA W1 B n (k.extract n k.size) v (.slice Ab s.b.length cb) (s.b ++ s.enc k.data.toList v.data.toList) 13 (us 13) wx := (hp 13 (by simp [Region.binds])).2
        obtain ⟨b13, h13, hb13, hl13, hc13, hd13⟩ := hs13
        have h16 := (hu 16 (by kernel_rfl)).1
        have h19 := (hu 19 (by kernel_rfl)).1
        have hBx := JA.of_ff h16 h19 hJ
        refine .inl ⟨by kernel_rfl, fun K Q hK => ?_⟩
        simp only [putAll, Act.put, Nat.reduceAdd, h13] at hK ⊢
        go_simp
        go_at_call 55
        refine (Text_two b13 _ _ wx hl13 hc13 hd13 hz11 hzv).mono ?_
        rintro e w9 ⟨rfl, hb9⟩
        refine Eq.mp ?_ (hK (.string (bs (textL [k.data.toList.drop n, v.data.toList]))) w9 (JA.ff h16 h19 (hBx.trans (hb9.mono hBx.size))) rfl (fun k u _ h => tauL_mono (SA.mono hb9) k u h))
        rw [hdr.out]
        kernel_rfl
      case o15c =>
        intro d us wx hd hJ hp hu hi
        have h8 : us 8 = _ := (hp 8 (by simp [Region.binds])).2
        have h14 : us 14 = _ := (hp 14 (by simp [Region.binds])).2
        refine .inl ⟨by kernel_rfl, fun K Q hK => ?_⟩
        simp only [putAll, Act.put, Nat.reduceAdd, h8, h14] at hK ⊢
        go_simp
        rw [if_neg hcat.out]
        go_simp
        refine Eq.mp ?_ (hK (.string (bs (varL1 n) ++ bs (textL [k.data.toList.drop n, v.data.toList]))) _ hJ rfl (fun _ _ _ h => h))
        kernel_rfl
      case o16c =>
        intro d us wx hd hJ hp hu hi
        have h4 : us 4 = _ := (hp 4 (by simp [Region.binds])).2
        have h15 : us 15 = _ := (hp 15 (by simp [Region.binds])).2
        have h16 := hd
        have h19 := (hu 19 (by kernel_rfl)).1
        have hBx := JA.of_ff h16 h19 hJ
        have hOx : OwnB wx B _ _ := own_block hOt.out (fun k hk => hBx.block k (own_lt hOt.out k hk).2)
        refine .inl ⟨by kernel_rfl, fun K Q hK => ?_⟩
        simp only [putAll, Act.put, Nat.reduceAdd, h4, h15] at hK ⊢
        refine wp_append_str (.tmp 65) (.tmp 76) rfl B _ s.b (by kernel_rfl) hOx (bs (varL1 n) ++ bs (textL [k.data.toList.drop n, v.data.toList])) (by kernel_rfl) hzz (by have := hBx.size; omega) ?_
        intro v9 w9 ho9 hg9 hat9
        rw [hen.out] at ho9
        have hk9 : KeptBut wx w9 (fun k => (Value.slice Ab s.b.length cb).ownBlock = some k) := (KeptBut.refl _ _).then_grown hg9 (fun k e => e)
        refine Eq.mp ?_ (hK v9 w9 (JA.tf h19 ((KeptBut.of_below hBx).trans hk9 (fun k _ e => e))) ⟨ho9, Moved.of_at (fun k hk => hat9 k hk) hBx.size ho9 (fun e => absurd e (own_some ho9 (by rw [List.length_append]; have := hep.out; omega)))⟩ (fun k u hk h => tauL_mono2 (SA.mono2 hk9 (fun k e => (own_lt hOt.out k e).2)) k u hk h))
        kernel_rfl
      case o17c =>
        intro d us wx hd hJ hp hu hi
        have h0 : us 0 = _ := (hp 0 (by simp [Region.binds])).2
        refine .inl ⟨by kernel_rfl, fun K Q hK => ?_⟩
        simp only [putAll, Act.put, Nat.reduceAdd, h0] at hK ⊢
        go_simp
        refine Eq.mp ?_ (hK (.pointer (some ⟨g, off, none⟩)) _ hJ rfl (fun _ _ _ h => h))
        kernel_rfl
      case o18c =>
        intro d us wx hd hJ hp hu hi
        have h17 : us 17 = _ := (hp 17 (by simp [Region.binds])).2
        refine .inl ⟨by kernel_rfl, fun K Q hK => ?_⟩
        simp only [putAll, Act.put, Nat.reduceAdd, h17] at hK ⊢
        go_simp
        refine Eq.mp ?_ (hK (.pointer (some ⟨g, off, none⟩)) _ hJ rfl (fun _ _ _ h => h))
        kernel_rfl
      case o19c =>
        intro d us wx hd hJ hp hu hi
        have h18 : us 18 = _ := (hp 18 (by simp [Region.binds])).2
        have hs16 : SA W1 B n (k.extract n k.size) v (.slice Ab s.b.length cb) (s.b ++ s.enc k.data.toList v.data.toList) 16 (us 16) wx := (hp 16 (by simp [Region.binds])).2
        obtain ⟨A9, c9, h16v⟩ := hs16.1.form
        rw [List.length_append] at h16v
        rw [h16v] at hs16
        have hd16 := (hp 16 (by simp [Region.binds])).1
        have hkx : KeptBut W1 wx _ := JA.of_tf hd (by have := hJ; rw [hd16] at this; exact this)
        have hBg := hBt.keptB hkx hgb.out
        have z0 := (hBg.cell off).trans q0
        have z1 := hBg.frozen off
        refine .inl ⟨by kernel_rfl, fun K Q hK => ?_⟩
        simp only [putAll, Act.put, Nat.reduceAdd, h18, h16v] at hK ⊢
        go_simp
        refine Eq.mp ?_ (hK (undef) (wx.setCell ⟨g, off, none⟩ (.slice A9 (s.b.length + (s.enc k.data.toList v.data.toList).length) c9)) (JA.tt hd16 ⟨_, own_set hs16.1 hBg h.tb, hs16.2, (hkx.mono (fun k _ e => .inr e)).then_set (.inl rfl), hBg.set_ off _⟩) trivial (fun k u _ h => tauL_mono (SA.mono3 hBt.lt hBg htb) k u h))
        kernel_rfl
    intro d us wx hJ hall
    have hd16 := (hall 16 (by simp)).1
    have hd19 := (hall 19 (by simp)).1
    obtain ⟨v9, ho9, hm9, hk9, hb9⟩ := JA.of_tt hd16 hd19 hJ
    simp only [putAll, Act.put, Nat.reduceAdd]
    have x2 : wx.cell? ⟨g, off + 2, none⟩ = some (.int .i64 s.count) := (hb9.cell (off + 2)).trans (by rw [Array.getElem?_setIfInBounds_ne (by omega)]; exact q2)
    have x3 : wx.cell? ⟨g, off + 3, none⟩ = some (.string (bs s.last)) := (hb9.cell (off + 3)).trans (by rw [Array.getElem?_setIfInBounds_ne (by omega)]; exact q3)
    have g2 := hb9.frozen (off + 2)
    have g3 := hb9.frozen (off + 3)
    clear hJ hall
    go_wp2_with fail
    go_ret
    refine ⟨rfl, h.put_end hcs1 hKt.out ?_ (Moved.refl _ _) ?_ ho9 hm9 hk9 hb9 ?_ ?_ ?_⟩
    · have : (s.put k.data.toList v.data.toList).starts = s.starts := by unfold BB.put; simp [hm]
      rw [this]
      exact hWt.out
    · exact own_blk_ne hWt.out hBt (fun e => h.tw e.symm)
    · exact own_types hOt.out hWt.out (by decide)
    · rw [bs_of]
    · first | rfl | (simp; done) | trace_state
set_option maxRecDepth 100000 in
set_option maxHeartbeats 4000000 in
theorem BCount_any {w : World} {B g t off : Nat} {cs : Array Value} {s : BB} {vb vs : Value} (h : BBAt w B g t off cs s vb vs) :
    Calls Tryd.prog 25 #[.pointer (some ⟨g, off, none⟩)] w fun e w' => e = .returned (.int .i64 s.count) ∧ Below w.heap.size w w' := by
  have c2 := (h.blk.cell (off + 2)).trans h.e2
  have hlt := h.blk.lt
  go_enter Tryd.func25, Tryd.ntmps25
  go_wp2_with fail
  go_ret
  exact ⟨rfl, Below.refl _ _⟩
set_option maxRecDepth 100000 in
set_option maxHeartbeats 4000000 in
theorem BSize_any {w : World} {B g t off : Nat} {cs : Array Value} {s : BB} {vb vs : Value} (h : BBAt w B g t off cs s vb vs) (hbl : s.b.length ≤ 1099511627776) (hst : s.starts.length ≤ 1099511627776) :
    Calls Tryd.prog 33 #[.pointer (some ⟨g, off, none⟩)] w fun e w' => e = .returned (.int .i64 (s.size : Nat)) ∧ Below w.heap.size w w' := by
  obtain ⟨Ab, cb, rfl⟩ := h.ob.form
  obtain ⟨As, cas, rfl⟩ := h.os.form
  have c0 := (h.blk.cell off).trans h.e0
  have c1 := (h.blk.cell (off + 1)).trans h.e1
  have hlt := h.blk.lt
  go_enter Tryd.func33, Tryd.ntmps33
  go_wp2_with fail
  go_region
  go_wp2_with fail
  go_ret
  refine ⟨congrArg Ending.returned (congrArg (Value.int .i64) ?_), (Below.refl _ _).drew⟩
  unfold BB.size
  omega
def foursX (l : List Nat) : L := l.flatMap bigX
theorem foursX_le (l : List Nat) : (foursX l).length ≤ 4 * l.length := by
  induction l with
  | nil => simp [foursX]
  | cons a l ih =>
    have := bigX_le a
    simp only [foursX, List.flatMap_cons, List.length_append, List.length_cons] at ih ⊢
    omega
def BB.outX (s : BB) : L := s.b ++ foursX (s.starts ++ [s.count])
theorem foursX_eq : ∀ {l : List Nat}, (∀ n ∈ l, n < 4294967296) → foursX l = fours l
  | [], _ => rfl
  | a :: l, h => by
    have h1 := foursX_eq (l := l) (fun n hn => h n (List.mem_cons_of_mem _ hn))
    unfold foursX fours at h1 ⊢
    rw [List.flatMap_cons, List.flatMap_cons, h1, bigX_of (h a (List.mem_cons_self ..))]
theorem BB.outX_eq {s : BB} (hn : ∀ n ∈ s.starts, n < 4294967296) (hc : s.count < 4294967296) : s.outX = s.out := by
  unfold BB.outX BB.out
  rw [foursX_eq]
  intro n hm
  rcases List.mem_append.1 hm with hm | hm
  · exact hn n hm
  · simp at hm
    rw [hm]
    exact hc
theorem BB.outX_le (s : BB) : s.outX.length ≤ s.b.length + 4 * (s.starts.length + 1) := by
  unfold BB.outX
  have := foursX_le (s.starts ++ [s.count])
  simp only [List.length_append, List.length_singleton] at this ⊢
  omega
set_option maxRecDepth 100000 in
set_option maxHeartbeats 4000000 in
theorem BFinish_x {w : World} {B g t off : Nat} {cs : Array Value} {s : BB} {vb vs : Value} (h : BBAt w B g t off cs s vb vs) (hB : B ≤ w.heap.size) (hbl : s.b.length ≤ 1099511627776) (hst : s.starts.length ≤ 1099511627776) (hn : ∀ n ∈ s.starts, n < 9223372036854775807) (hc : s.count < 9223372036854775807) :
    Calls Tryd.prog 28 #[.pointer (some ⟨g, off, none⟩)] w fun e w' => e = .returned (.string (bs s.outX)) ∧ BBAt w' B g t off (setBB cs off (.slice none 0 0) (.slice none 0 0) BB.new) BB.new (.slice none 0 0) (.slice none 0 0) ∧ KeptBut w w' (BS g vb vs) := by
  obtain ⟨i0, hi0, hz0, hz1, hz2⟩ := info_parts u64_info
  obtain ⟨Ab, cb, rfl⟩ := h.ob.form
  obtain ⟨As, cas, rfl⟩ := h.os.form
  have c0 := (h.blk.cell off).trans h.e0
  have c1 := (h.blk.cell (off + 1)).trans h.e1
  have c2 := (h.blk.cell (off + 2)).trans h.e2
  have hlt := h.blk.lt
  replace hn := Lib.hid hn
  have hcw : IntKind.u64.wrap ((s.count : Nat) : Int) = ((s.count : Nat) : Int) := by rw [IntKind.wrap_u64]; omega
  go_enter Tryd.func28, Tryd.ntmps28
  go_wp2_with fail
  have hxc := @Ext.cell
  have hxf := @Ext.frozen
  refine wp_hide (fun Q0 hQ0 => ?_)
  refine wp_region_line (fun w' => ∃ x : Ext _, w' = x.w) [some false, some false, some false, some false, some false, some false, some false, some false, some false, none, none, none, some true] 1 (by kernel_rfl) (by kernel_rfl) ⟨⟨_, (Below.refl _ _).drew⟩, rfl⟩ ?_
  simp only [earlyL, tailL]
  repeat (first | ((with_reducible refine wpMix_p ?_); go_big_quiet_step (fail); refine wpQuiet_nil ?_) | ((with_reducible refine wpMix_e ?_); go_big_quiet_step ((first | fail)); refine wpQuiet_nil ?_))
  refine wpMix_nil ?_
  clear hxc hxf
  intro wx hwx
  obtain ⟨x, hx⟩ := hwx
  have hb := x.below
  rw [← hx] at hb
  clear hx x
  have hbs := hb.size
  have hown := own_block h.os (fun k hk => hb.block k (own_lt h.os k hk).2)
  have hownx := World.ownsRow.alloc hown (.cells #[.int .u64 (s.count : Nat)] 24)
  have hrd := new_u64 wx (s.count : Nat) 24
  have hone : ∀ u ∈ [Value.int .u64 (s.count : Nat)], u.oneCell' = true := by
    intro u hu
    simp at hu
    subst hu
    rfl
  have hBx : B ≤ (wx.alloc (.cells #[.int .u64 (s.count : Nat)] 24)).heap.size := by rw [World.size_alloc]; omega
  replace hone := Lib.hid hone
  clear hown
  refine wpTail_step ?_
  intro Q1 hQ1
  go_wp2_with fail
  refine hQ1 _ _ rfl (fun _ => ⟨⟨_, hb.alloc hbs _⟩, rfl⟩) ?_
  clear hQ1 Q1
  refine wpTail_step ?_
  intro Q1 hQ1
  go_wp2_with (at_builtin; refine wpList_append_any _ rfl (.tmp 17) (.tmp 23) 62 rfl B 24 i0 (.int .u64 0) 1 8 Tryd.underlying62 hi0 hz0 hz1 hz2 rfl (by omega) (.slice As s.starts.length cas) s.starts.length (s.starts.map fun n => Value.int .u64 (n : Nat)) rfl hownx (wx.heap.size + 1) (some ⟨wx.heap.size, 0, none⟩) 1 1 [.int .u64 (s.count : Nat)] rfl hrd hone.out (by unfold maxLen; omega) (by omega) hBx ?_; intro v2 w2 hown2 hgr2 hat2)
  refine hQ1 _ _ rfl (fun h => absurd h (by decide)) ?_
  clear hQ1 Q1
  have ho2 := OwnW.of_law hown2
  obtain ⟨gs, c2', e2⟩ : ∃ gs c2', v2 = .slice (some ⟨gs, 0, none⟩) (s.starts.length + 1) c2' := by
    rcases ho2.2 with ⟨_, e⟩ | ⟨g, cap, cur, e, _⟩
    · simp at e
    · exact ⟨g, cap, by rw [e]; simp⟩
  subst e2
  have hk2 : KeptBut w w2 (fun k => (Value.slice As s.starts.length cas).ownBlock = some k) := (KeptBut.of_below (hb.alloc hbs _)).then_grown hgr2 (fun k e => e)
  have hB2 : Blk w2 g t cs := h.blk.keptB hk2 h.gs
  have hO2 : OwnB w2 B (.slice Ab s.b.length cb) s.b := own_kept h.ob hk2 h.nbs
  have hgs2 : gs < w2.heap.size := (own_lt ho2 gs rfl).2
  have hgsn : (Value.slice Ab s.b.length cb).ownBlock ≠ some gs := fun e => own_types hO2 ho2 (by decide) gs e rfl
  have hcs2 := ho2.cells (g := gs) rfl
  replace hk2 := Lib.hid hk2
  replace hB2 := Lib.hid hB2
  replace hcs2 := Lib.hid hcs2
  replace ho2 := Lib.hid ho2
  replace hO2 := Lib.hid hO2
  clear hown2 hgr2 hat2 hownx hrd hone
  refine wpTail_step ?_
  intro Q1 hQ1
  go_wp2_with (fail)
  refine hQ1 _ _ rfl (fun h => absurd h (by decide)) ?_
  clear hQ1 Q1
  refine wpTail_nil ?_
  refine hQ0 _ _ ?_
  clear hQ0 Q0
  go_wp2_with fail
  go_loopw [3, 26] (fun v i wr => ∃ k : Nat, k ≤ s.starts.length + 1 ∧ i = .int .i64 k ∧ OwnB wr B v (s.b ++ foursX ((s.starts ++ [s.count]).take k)) ∧ (∀ q, v.ownBlock = some q → (Value.slice Ab s.b.length cb).ownBlock = some q ∨ w2.heap.size ≤ q) ∧ KeptBut w2 wr (fun j => (Value.slice Ab s.b.length cb).ownBlock = some j)) (fun _ i _ => s.starts.length + 1 - (intOf i).toNat)
  case atStart => exact ⟨0, Nat.zero_le _, rfl, by simpa [foursX] using hO2.out, fun q e => .inl e, KeptBut.refl _ _⟩
  case round =>
    obtain ⟨k, hk, rfl, hov, hmv, hkr⟩ := hrel
    by_cases hlt2 : k < s.starts.length + 1
    · have hlt2' : (k : Int) < s.starts.length + 1 := by omega
      have hkl : k < (s.starts ++ [s.count]).length := by simp; omega
      obtain ⟨n, hnk⟩ : ∃ n, (s.starts ++ [s.count])[k]? = some n := ⟨_, List.getElem?_eq_getElem hkl⟩
      have hn4 : n < 9223372036854775807 := by
        rcases List.mem_append.1 (List.mem_of_getElem? hnk) with hm | hm
        · exact hn.out n hm
        · simp at hm
          rw [hm]
          exact hc
      have hcell := hcs2.out k (.int .u64 (n : Nat)) (by rw [List.getElem?_map, hnk]; rfl)
      rw [add_off, Nat.zero_add] at hcell
      have hcr := (hkr.cell ⟨gs, k, none⟩ hgs2 hgsn).trans hcell
      have hzr := hkr.size
      have htk : foursX ((s.starts ++ [s.count]).take (k + 1)) = foursX ((s.starts ++ [s.count]).take k) ++ bigX n := by
        rw [List.take_add_one, hnk]
        simp [foursX]
      have hfl := foursX_le ((s.starts ++ [s.count]).take k)
      rw [List.length_take] at hfl
      have hlk : (s.b ++ foursX ((s.starts ++ [s.count]).take k)).length ≤ 6597069766656 := by
        rw [List.length_append]
        rw [List.length_append] at hfl
        simp only [List.length_singleton] at hfl
        omega
      have htk2 : s.b ++ foursX ((s.starts ++ [s.count]).take (k + 1)) = (s.b ++ foursX ((s.starts ++ [s.count]).take k)) ++ bigX n := by rw [htk, List.append_assoc]
      generalize s.b ++ foursX ((s.starts ++ [s.count]).take k) = lk at *
      replace htk2 := Lib.hid htk2
      replace hnk := Lib.hid hnk
      clear htk hfl
      obtain ⟨Av, cv, rfl⟩ := hov.form
      replace hmv := Lib.hid hmv
      replace hkr := Lib.hid hkr
      clear hcell
      go_wp2_with fail
      refine (Big_x n _ (by omega)).mono ?_
      rintro e w3 ⟨rfl, hb3⟩
      have hz3 := hb3.size
      have ho3 : OwnB w3 B _ _ := own_block hov (fun k hk => hb3.block k (own_lt hov k hk).2)
      have hsz4 : (bs (bigX n)).size ≤ 4 := by rw [bs_size]; exact bigX_le n
      have hBw : B ≤ w3.heap.size := by have := h.hB; have := hk2.out.size; omega
      go_wp2_with (at_builtin; refine wpList_append_str rfl (.tmp 35) (.tmp 36) rfl B (.slice Av lk.length cv) lk rfl ho3 (bs (bigX n)) rfl (by omega) hBw ?_; intro v4 w4 ho4 hg4 hat4)
      rw [bs_data] at ho4
      have hk4 : KeptBut wr w4 (fun j => (Value.slice Av lk.length cv).ownBlock = some j) := (KeptBut.of_below hb3).then_grown hg4 (fun k e => e)
      have hm4 : ∀ q, v4.ownBlock = some q → (Value.slice Ab s.b.length cb).ownBlock = some q ∨ w2.heap.size ≤ q := fun q e => by
        rcases hat4 q e with e1 | e1
        · exact hmv.out q e1
        · exact .inr (by omega)
      refine ⟨⟨k + 1, by omega, by go_num, by rw [htk2.out]; exact ho4, hm4, hkr.out.trans hk4 (fun j hj e => ?_)⟩, by first | omega | (simp only [intOf]; omega)⟩
      rcases hmv.out j e with e1 | e1
      · exact e1
      · omega
    · obtain rfl : k = s.starts.length + 1 := by omega
      have hlt2' : ¬ ((s.starts.length : Int) + 1 < s.starts.length + 1) := by omega
      have hfin : s.b ++ foursX ((s.starts ++ [s.count]).take (s.starts.length + 1)) = s.outX := by rw [List.take_of_length_le (by simp)]; rfl
      rw [hfin] at hov
      obtain ⟨Av, cv, rfl⟩ := hov.form
      have hBr := hB2.out.keptB hkr (fun e => h.gb e)
      have hBl := hBr.lt
      have z0 := hBr.cell off
      rw [h.e0] at z0
      have z1 := hBr.cell (off + 1)
      rw [h.e1] at z1
      have z2 := hBr.cell (off + 2)
      rw [h.e2] at z2
      have z3 := hBr.cell (off + 3)
      rw [h.e3] at z3
      have y0 := hBr.frozen off
      have y1 := hBr.frozen (off + 1)
      have y2 := hBr.frozen (off + 2)
      have y3 := hBr.frozen (off + 3)
      have o1 := own_set (o := off) (u := .slice none 0 0) hov hBr h.tb
      have b1 := hBr.set_ off (.slice none 0 0)
      have o2 := own_set (o := off + 1) (u := .slice none 0 0) o1 b1 h.tb
      have b2 := b1.set_ (off + 1) (.slice none 0 0)
      have o3 := own_set (o := off + 2) (u := .int .i64 0) o2 b2 h.tb
      have b3 := b2.set_ (off + 2) (.int .i64 0)
      have o4 := own_set (o := off + 3) (u := .string ⟨#[]⟩) o3 b3 h.tb
      have b4 := b3.set_ (off + 3) (.string ⟨#[]⟩)
      have hsz := set_lt h.e3
      have hk5 : KeptBut w ((((wr.setCell ⟨g, off, none⟩ (.slice none 0 0)).setCell ⟨g, off + 1, none⟩ (.slice none 0 0)).setCell ⟨g, off + 2, none⟩ (.int .i64 0)).setCell ⟨g, off + 3, none⟩ (.string ⟨#[]⟩)) (BS g (.slice Ab s.b.length cb) (.slice As s.starts.length cas)) := by
        refine KeptBut.then_set (KeptBut.then_set (KeptBut.then_set (KeptBut.then_set (KeptBut.trans (hk2.out.mono (fun k _ e => .inr (.inr e))) hkr (fun k _ e => .inr (.inl e))) (.inl rfl)) (.inl rfl)) (.inl rfl)) (.inl rfl)
      have htx := OwnB.text o4
      obtain ⟨g0, g1, g2, g3⟩ := setBB_get (cs := cs) (off := off) (vb := .slice none 0 0) (vs := .slice none 0 0) (s := BB.new) hsz
      have hfin2 : BBAt ((((wr.setCell ⟨g, off, none⟩ (.slice none 0 0)).setCell ⟨g, off + 1, none⟩ (.slice none 0 0)).setCell ⟨g, off + 2, none⟩ (.int .i64 0)).setCell ⟨g, off + 3, none⟩ (.string ⟨#[]⟩)) B g t off (setBB cs off (.slice none 0 0) (.slice none 0 0) BB.new) BB.new (.slice none 0 0) (.slice none 0 0) :=
        ⟨h.hB, b4, g0, g1, g2, g3, OwnB.nil _ _, World.ownsRow_nil _ _ _ 1, h.tb, h.tw⟩
      replace hfin2 := Lib.hid hfin2
      replace hk5 := Lib.hid hk5
      clear o1 o2 o3 o4 b1 b2 b3 b4 hov hBr
      go_wp2_with fail
      go_ret
      exact ⟨rfl, hfin2.out, hk5.out⟩
theorem BFinish_any {w : World} {B g t off : Nat} {cs : Array Value} {s : BB} {vb vs : Value} (h : BBAt w B g t off cs s vb vs) (hB : B ≤ w.heap.size) (hbl : s.b.length ≤ 1099511627776) (hst : s.starts.length ≤ 1099511627776) (hn : ∀ n ∈ s.starts, n < 4294967296) (hc : s.count < 4294967296) :
    Calls Tryd.prog 28 #[.pointer (some ⟨g, off, none⟩)] w fun e w' => e = .returned (.string (bs s.out)) ∧ BBAt w' B g t off (setBB cs off (.slice none 0 0) (.slice none 0 0) BB.new) BB.new (.slice none 0 0) (.slice none 0 0) ∧ KeptBut w w' (BS g vb vs) := by
  have := BFinish_x h hB hbl hst (fun n hm => by have := hn n hm; omega) (by omega)
  rwa [BB.outX_eq hn hc] at this
end Go.Proofs.YtfnlponoakhegaaDoor
