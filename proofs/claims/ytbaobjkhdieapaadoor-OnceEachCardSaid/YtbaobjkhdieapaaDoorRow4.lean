/- Contracts of packages rows and once: ReadClient, Keep. -/
import Derived.Test.YtbaobjkhdieapaaDoorRow3
namespace Go.Proofs.YtbaobjkhdieapaaDoor
open Go.RowKit
set_option linter.unusedVariables false
set_option linter.unusedSimpArgs false

set_option maxRecDepth 100000 in
set_option maxHeartbeats 4000000 in
theorem ReadClient_none (s : ByteArray) (w : World) (hs : s.size ≤ 1073741824) (h : readClient s.data.toList = none) :
    Calls Tryd.prog 19 #[.string s] w fun e w' => e = .returned (.tuple #[.int .u64 0, .string ⟨#[]⟩, .bool false]) ∧ Below w.heap.size w w' := by
  have hx := numbers_one s w hs
  rw [h] at hx
  replace hx := Lib.hid hx
  go_enter Tryd.func19, Tryd.ntmps19
  go_wp2_with fail
  refine hx.out.mono ?_
  rintro e w1 ⟨rfl, hb1⟩
  go_wp2_with fail
  go_ret3
  exact ⟨rfl, hb1⟩

set_option maxRecDepth 100000 in
set_option maxHeartbeats 4000000 in
theorem ReadClient_some (s : ByteArray) (n : Nat) (t : List UInt8) (w : World) (hs : s.size ≤ 1073741824) (h : readClient s.data.toList = some (n, t)) :
    Calls Tryd.prog 19 #[.string s] w fun e w' => e = .returned (.tuple #[.int .u64 n, .string (bs t), .bool true]) ∧ Below w.heap.size w w' := by
  have hx := numbers_one s w hs
  rw [h] at hx
  replace hx := Lib.hid hx
  go_enter Tryd.func19, Tryd.ntmps19
  go_wp2_with fail
  refine hx.out.mono ?_
  rintro e w1 ⟨⟨v, rfl, g, cap, rfl, hg0, hg1, hg2⟩, hb1⟩
  go_wp2_with fail
  go_ret3
  exact ⟨rfl, hb1⟩

set_option maxRecDepth 100000 in
set_option maxHeartbeats 4000000 in
theorem Keep_any (c n : Int) (s : ByteArray) (w : World) (h0 : 0 ≤ c) (h1 : c ≤ 255) (n0 : 0 ≤ n) (n1 : n ≤ 18446744073709551615) (hs : s.size ≤ 9223372036854775807) :
    Calls Tryd.prog 7 #[.int .u8 c, .int .u64 n, .string s] w fun e w' => e = .returned (.agg #[.string (bs (clientL c.toNat)), .string (bs (valueL n.toNat (s.data.toList.take 480))), .bool false]) ∧ Below w.heap.size w w' := by
  have hmm : (min (s.size : Int) 480).toNat = min s.size 480 := by omega
  have he : (s.extract 0 (min (s.size : Int) 480).toNat).data.toList = s.data.toList.take 480 := by
    rw [hmm, ext_bs, bs_data, List.drop_zero, Nat.sub_zero]
    rcases Nat.le_total s.size 480 with h | h
    · rw [Nat.min_eq_left h, ← dlen s, List.take_length, List.take_of_length_le (by rw [dlen]; exact h)]
    · rw [Nat.min_eq_right h]
  have hm : (s.extract 0 (min (s.size : Int) 480).toNat).size ≤ 480 := by rw [hmm]; simp; omega
  have hx := fun w => ClientValue_any n (s.extract 0 (min (s.size : Int) 480).toNat) w n0 n1 hm
  rw [he] at hx
  replace hx := Lib.hid hx
  clear hmm he hm
  go_enter Tryd.func7, Tryd.ntmps7
  go_wp2_with fail
  refine (hx.out _).mono ?_
  rintro e w1 ⟨rfl, hb1⟩
  have hz := hb1.size
  simp at hz
  have hc := fun o => hb1.cell (p := ⟨w.heap.size, o, none⟩) (by simp)
  have hf := fun o => hb1.frozen (p := ⟨w.heap.size, o, none⟩) (by simp)
  go_wp2_with fail
  refine (ClientKey_any c _ h0 h1).mono ?_
  rintro e w2 ⟨rfl, hb2⟩
  have hz2 := hb2.size
  have hlt : w.heap.size < w1.heap.size := by omega
  have hc2 := fun o => hb2.cell (p := ⟨w.heap.size, o, none⟩) hlt
  have hf2 := fun o => hb2.frozen (p := ⟨w.heap.size, o, none⟩) hlt
  go_wp2_with fail
  exact bodyPost_ret (v := .agg #[.string (bs (clientL c.toNat)), .string (bs (valueL n.toNat (s.data.toList.take 480))), .bool false]) (by simp [results, Tryd.results7, go_sem, *]) rfl ⟨rfl, (by repeat' first | (with_reducible exact Below.refl _ _) | (with_reducible refine Below.setCell ?_ ?_ _) | (with_reducible refine Below.alloc ?_ ?_ _) | (with_reducible refine Below.drew ?_) | (with_reducible refine Below.trans ?_ (Below.mono (by assumption) ?_)) | omega | (simp; done) | (simp; omega))⟩
end Go.Proofs.YtbaobjkhdieapaaDoor
