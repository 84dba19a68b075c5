/- Contracts of package num: ReadVar. -/
import Derived.Test.YtbaobjkhdieapaaDoorNum3
namespace Go.Proofs.YtbaobjkhdieapaaDoor
open Go.RowKit
set_option linter.unusedVariables false
set_option linter.unusedSimpArgs false

def outVar (o : Option (Nat × Nat)) : Value := .tuple #[.int .u64 (((o.map (·.1)).getD 0 : Nat) : Int), .int .i64 (((o.map (·.2)).getD 0 : Nat) : Int), .bool o.isSome]

set_option maxRecDepth 100000 in
set_option maxHeartbeats 2000000 in
theorem ReadVar_any (s : ByteArray) (w : World) (hs : s.size ≤ maxLen) :
    Calls Tryd.prog 34 #[.string s] w fun e w' => e = .returned (outVar (readVar s.data.toList)) ∧ Below w.heap.size w w' := by
  unfold maxLen at hs
  have hl := dlen s
  cases hd : s.data.toList with
  | nil =>
    have h1 : s.toList.isEmpty = true := by rw [ByteArray.toList_eq, hd]; rfl
    have h2 : s.toList = [] := by rw [ByteArray.toList_eq, hd]
    clear hl
    go_enter Tryd.func34, Tryd.ntmps34
    go_wp2
    go_ret3
    exact ⟨rfl, Below.refl _ _⟩
  | cons c r =>
    have h1 : s.toList.isEmpty = false := by rw [ByteArray.toList_eq, hd]; rfl
    have h2 : ¬ s.toList = [] := by rw [ByteArray.toList_eq, hd]; simp
    have h3 : 0 < s.size := by rw [← hl, hd]; simp
    have h4 : s[0] = c := by
      have : s.data.toList[0]'(by rw [hd]; simp) = c := by simp [hd]
      rw [← this]; rfl
    have h5 : (s.extract 1 s.size).data.toList = r := by rw [Lib.extract_to_end, hd]; rfl
    have hc := c.toNat_lt
    replace hd := Lib.hid hd
    clear hl
    by_cases hlo : c.toNat < 248
    · go_enter Tryd.func34, Tryd.ntmps34
      go_wp2_with fail
      go_ret3
      exact ⟨by simp [outVar, readVar, hlo], Below.refl _ _⟩
    · have hk : ((c.toNat : Int) - 248 + 1) = ((c.toNat - 247 : Nat) : Int) := by omega
      replace hk := Lib.hid hk
      have hrv : readVar (c :: r) = (match readBig r (((c.toNat - 247 : Nat) : Nat) : Int) with
        | none => none
        | some n => if behindN n = c.toNat - 247 then some (n, 1 + (c.toNat - 247)) else none) := by simp only [readVar]; rw [if_neg hlo]; rfl
      replace hrv := Lib.hid hrv
      cases hq : readBig r (((c.toNat - 247 : Nat) : Nat) : Int) with
      | none =>
        have hx := ReadBig_none (s.extract 1 s.size) _ w (by unfold maxLen; simp; omega) (by omega) (by omega) (h5.symm ▸ hq)
        replace hx := Lib.hid hx
        replace hq := Lib.hid hq
        go_enter Tryd.func34, Tryd.ntmps34
        go_wp2_with fail
        rw [hk.out]
        refine hx.out.mono ?_
        rintro e w1 ⟨rfl, hb⟩
        go_wp2_with fail
        go_ret3
        exact ⟨by rw [hrv.out, hq.out]; rfl, hb⟩
      | some n =>
        have hx := ReadBig_some (s.extract 1 s.size) _ n w (by unfold maxLen; simp; omega) (by omega) (by omega) (h5.symm ▸ hq)
        replace hx := Lib.hid hx
        have hn := readBig_lt hq
        have hn' : (n : Int) ≤ 18446744073709551615 := by omega
        clear hn
        have hbl := behindN_le n
        replace hq := Lib.hid hq
        by_cases he : behindN n = c.toNat - 247
        · replace he := Lib.hid he
          go_enter Tryd.func34, Tryd.ntmps34
          go_wp2_with fail
          rw [hk.out]
          refine hx.out.mono ?_
          rintro e w1 ⟨rfl, hb⟩
          go_wp2_with fail
          refine (behind_any n _ (by omega) hn').mono ?_
          rintro e w' ⟨rfl, rfl⟩
          rw [Int.toNat_natCast, he.out]
          go_wp2_with fail
          go_ret3
          refine ⟨?_, hb⟩
          rw [hrv.out, hq.out]
          simp only [he.out, if_true]
          simp [outVar]
        · go_enter Tryd.func34, Tryd.ntmps34
          go_wp2_with fail
          rw [hk.out]
          refine hx.out.mono ?_
          rintro e w1 ⟨rfl, hb⟩
          go_wp2_with fail
          refine (behind_any n _ (by omega) hn').mono ?_
          rintro e w' ⟨rfl, rfl⟩
          rw [Int.toNat_natCast]
          go_wp2_with fail
          go_ret3
          refine ⟨?_, hb⟩
          rw [hrv.out, hq.out]
          simp only [he, if_false]
          rfl
theorem ext_bs (s : ByteArray) (a b : Nat) : s.extract a b = bs ((s.data.toList.drop a).take (b - a)) := by
  apply ByteArray.ext
  apply Array.toList_inj.1
  rw [bs_data]
  simp [List.take_drop]
theorem readVar_le {l : List UInt8} {n k : Nat} (h : readVar l = some (n, k)) : 1 ≤ k ∧ k ≤ l.length ∧ n < 18446744073709551616 := by
  cases l with
  | nil => simp [readVar] at h
  | cons c r =>
    have hc := c.toNat_lt
    simp only [readVar] at h
    split at h
    · simp at h; obtain ⟨rfl, rfl⟩ := h
      refine ⟨by omega, by simp, by omega⟩
    · split at h
      · cases h
      · rename_i m hm
        split at h
        · simp at h
          obtain ⟨rfl, rfl⟩ := h
          refine ⟨by omega, ?_, readBig_lt hm⟩
          unfold readBig at hm
          split at hm
          · cases hm
          · rename_i hk; simp; omega
        · cases h

def outText (o : Option (List UInt8 × Nat)) : Value := .tuple #[.string (bs ((o.map (·.1)).getD [])), .int .i64 (((o.map (·.2)).getD 0 : Nat) : Int), .bool o.isSome]
theorem ReadVar_none (s : ByteArray) (w : World) (hs : s.size ≤ maxLen) (h : readVar s.data.toList = none) :
    Calls Tryd.prog 34 #[.string s] w fun e w' => e = .returned (.tuple #[.int .u64 0, .int .i64 0, .bool false]) ∧ Below w.heap.size w w' := by
  have := ReadVar_any s w hs
  rw [h] at this
  exact this
theorem ReadVar_some (s : ByteArray) (n k : Nat) (w : World) (hs : s.size ≤ maxLen) (h : readVar s.data.toList = some (n, k)) :
    Calls Tryd.prog 34 #[.string s] w fun e w' => e = .returned (.tuple #[.int .u64 n, .int .i64 k, .bool true]) ∧ Below w.heap.size w w' := by
  have := ReadVar_any s w hs
  rw [h] at this
  exact this

set_option maxRecDepth 100000 in
set_option maxHeartbeats 2000000 in
theorem ReadText_any (s : ByteArray) (most : Int) (w : World) (hs : s.size ≤ maxLen) (h0 : -9223372036854775808 ≤ most) (h1 : most ≤ 9223372036854775807) :
    Calls Tryd.prog 35 #[.string s, .int .i64 most] w fun e w' => e = .returned (outText (readText s.data.toList most)) ∧ Below w.heap.size w w' := by
  cases hv : readVar s.data.toList with
  | none =>
    have hx := ReadVar_none s w hs hv
    replace hx := Lib.hid hx
    have hr : readText s.data.toList most = none := by unfold readText; rw [hv]
    replace hr := Lib.hid hr
    replace hv := Lib.hid hv
    unfold maxLen at hs
    go_enter Tryd.func35, Tryd.ntmps35
    go_wp2_with fail
    refine hx.out.mono ?_
    rintro e w1 ⟨rfl, hb⟩
    go_wp2_with fail
    go_ret3
    exact ⟨by rw [hr.out]; rfl, hb⟩
  | some q =>
    obtain ⟨n, k⟩ := q
    have hx := ReadVar_some s n k w hs hv
    replace hx := Lib.hid hx
    obtain ⟨k1, k2, k3⟩ := readVar_le hv
    rw [dlen] at k2
    have hn : (n : Int) ≤ 18446744073709551615 := by omega
    clear k3
    unfold maxLen at hs
    by_cases hbad : most < 0 ∨ most < n ∨ s.size - k < n
    · have hr : readText s.data.toList most = none := by unfold readText; rw [hv]; simp only [dlen]; rw [if_pos hbad]
      replace hr := Lib.hid hr
      replace hv := Lib.hid hv
      go_enter Tryd.func35, Tryd.ntmps35
      go_wp2_with fail
      refine hx.out.mono ?_
      rintro e w1 ⟨rfl, hb⟩
      go_wp2_with fail
      all_goals go_ret3
      all_goals exact ⟨by rw [hr.out]; rfl, hb⟩
    · have hr : readText s.data.toList most = some ((s.data.toList.drop k).take n, k + n) := by unfold readText; rw [hv]; simp only [dlen]; rw [if_neg hbad]
      replace hr := Lib.hid hr
      replace hv := Lib.hid hv
      have g1 : 0 ≤ most := by omega
      have g2 : (n : Int) ≤ most := by omega
      have g3 : k + n ≤ s.size := by omega
      clear hbad
      go_enter Tryd.func35, Tryd.ntmps35
      go_wp2_with fail
      refine hx.out.mono ?_
      rintro e w1 ⟨rfl, hb⟩
      go_wp2_with fail
      go_ret3
      refine ⟨?_, hb⟩
      rw [hr.out, ext_bs, show k + n - k = n from by omega]
      simp [outText]
end Go.Proofs.YtbaobjkhdieapaaDoor
