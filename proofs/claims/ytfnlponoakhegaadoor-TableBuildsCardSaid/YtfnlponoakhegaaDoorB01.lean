/- Contracts of package num: ReadVar. strings.Builder in this program: copyCheck and WriteString. (The lines follow the library's own proof of the same contracts, turned to this program's numbers.) Contracts of package okey: Key of numbers. What was written reads back: numbers and texts; sharing; the order of texts. No program in sight. Package block, plain: what a builder has, what its bytes are, how they are read. No program in sight. Package okey, plain: a text's key, and what keys' bytes are read as. Contracts of package num: Big. Contracts: cell.Crc. Contracts: okey: Str, Num, Key of one text, readText. Contracts: okey: readText. A text's bytes appended to a row of bytes: where the new row lies. block.Builder in memory; shared. Contracts: okey: Parts. -/
import Derived.Test.YtfnlponoakhegaaDoorB00
import Derived.Test.YtfnlponoakhegaaDoorShelf
import GoSem.Op.String
import Derived.Lib.Replace
import Derived.Lib.IndexBytes
import Derived.Laws.BitsAllLaws
import Derived.Lib.AppendStr
import Derived.Lib.Hide
namespace Go.Proofs.YtfnlponoakhegaaDoor
open Go.RowKit
set_option linter.unusedVariables false
set_option linter.unusedSimpArgs false
def outVar (o : Option (Nat × Nat)) : Value := .tuple #[.int .u64 (((o.map (·.1)).getD 0 : Nat) : Int), .int .i64 (((o.map (·.2)).getD 0 : Nat) : Int), .bool o.isSome]
set_option maxRecDepth 100000 in
set_option maxHeartbeats 2000000 in
theorem ReadVar_any (s : ByteArray) (w : World) (hs : s.size ≤ maxLen) :
    Calls Tryd.prog 63 #[.string s] w fun e w' => e = .returned (outVar (readVar s.data.toList)) ∧ Below w.heap.size w w' := by
  unfold maxLen at hs
  have hl := dlen s
  cases hd : s.data.toList with
  | nil =>
    have h1 : s.toList.isEmpty = true := by rw [ByteArray.toList_eq, hd]; rfl
    have h2 : s.toList = [] := by rw [ByteArray.toList_eq, hd]
    clear hl
    go_enter Tryd.func63, Tryd.ntmps63
    go_wp2
    go_ret3
    exact ⟨rfl, Below.refl _ _⟩
  | cons c r =>
    have h1 : s.toList.isEmpty = false := by rw [ByteArray.toList_eq, hd]; rfl
    have h2 : ¬ s.toList = [] := by rw [ByteArray.toList_eq, hd]; simp
    have h3 : 0 < s.size := by rw [← hl, hd]; simp
    have h4 : s[0] = c := by
      have : s.data.toList[0]'(by rw [hd]; simp) = c := by simp [hd]
      rw [← this]; rfl
    have h5 : (s.extract 1 s.size).data.toList = r := by rw [Lib.extract_to_end, hd]; rfl
    have hc := c.toNat_lt
    replace hd := Lib.hid hd
    clear hl
    by_cases hlo : c.toNat < 248
    · go_enter Tryd.func63, Tryd.ntmps63
      go_wp2_with fail
      go_ret3
      exact ⟨by simp [outVar, readVar, hlo], Below.refl _ _⟩
    · have hk : ((c.toNat : Int) - 248 + 1) = ((c.toNat - 247 : Nat) : Int) := by omega
      replace hk := Lib.hid hk
      have hrv : readVar (c :: r) = (match readBig r (((c.toNat - 247 : Nat) : Nat) : Int) with
        | none => none
        | some n => if behindN n = c.toNat - 247 then some (n, 1 + (c.toNat - 247)) else none) := by simp only [readVar]; rw [if_neg hlo]; rfl
      replace hrv := Lib.hid hrv
      cases hq : readBig r (((c.toNat - 247 : Nat) : Nat) : Int) with
      | none =>
        have hx := ReadBig_none (s.extract 1 s.size) _ w (by unfold maxLen; simp; omega) (by omega) (by omega) (h5.symm ▸ hq)
        replace hx := Lib.hid hx
        replace hq := Lib.hid hq
        go_enter Tryd.func63, Tryd.ntmps63
        go_wp2_with fail
        rw [hk.out]
        refine hx.out.mono ?_
        rintro e w1 ⟨rfl, hb⟩
        go_wp2_with fail
        go_ret3
        exact ⟨by rw [hrv.out, hq.out]; rfl, hb⟩
      | some n =>
        have hx := ReadBig_some (s.extract 1 s.size) _ n w (by unfold maxLen; simp; omega) (by omega) (by omega) (h5.symm ▸ hq)
        replace hx := Lib.hid hx
        have hn := readBig_lt hq
        have hn' : (n : Int) ≤ 18446744073709551615 := by omega
        clear hn
        have hbl := behindN_le n
        replace hq := Lib.hid hq
        by_cases he : behindN n = c.toNat - 247
        · replace he := Lib.hid he
          go_enter Tryd.func63, Tryd.ntmps63
          go_wp2_with fail
          rw [hk.out]
          refine hx.out.mono ?_
          rintro e w1 ⟨rfl, hb⟩
          go_wp2_with fail
          refine (behind_any n _ (by omega) hn').mono ?_
          rintro e w' ⟨rfl, rfl⟩
          rw [Int.toNat_natCast, he.out]
          go_wp2_with fail
          go_ret3
          refine ⟨?_, hb⟩
          rw [hrv.out, hq.out]
          simp only [he.out, if_true]
          simp [outVar]
        · go_enter Tryd.func63, Tryd.ntmps63
          go_wp2_with fail
          rw [hk.out]
          refine hx.out.mono ?_
          rintro e w1 ⟨rfl, hb⟩
          go_wp2_with fail
          refine (behind_any n _ (by omega) hn').mono ?_
          rintro e w' ⟨rfl, rfl⟩
          rw [Int.toNat_natCast]
          go_wp2_with fail
          go_ret3
          refine ⟨?_, hb⟩
          rw [hrv.out, hq.out]
          simp only [he, if_false]
          rfl
theorem ext_bs (s : ByteArray) (a b : Nat) : s.extract a b = bs ((s.data.toList.drop a).take (b - a)) := by
  apply ByteArray.ext
  apply Array.toList_inj.1
  rw [bs_data]
  simp [List.take_drop]
theorem readVar_le {l : List UInt8} {n k : Nat} (h : readVar l = some (n, k)) : 1 ≤ k ∧ k ≤ l.length ∧ n < 18446744073709551616 := by
  cases l with
  | nil => simp [readVar] at h
  | cons c r =>
    have hc := c.toNat_lt
    simp only [readVar] at h
    split at h
    · simp at h; obtain ⟨rfl, rfl⟩ := h
      refine ⟨by omega, by simp, by omega⟩
    · split at h
      · cases h
      · rename_i m hm
        split at h
        · simp at h
          obtain ⟨rfl, rfl⟩ := h
          refine ⟨by omega, ?_, readBig_lt hm⟩
          unfold readBig at hm
          split at hm
          · cases hm
          · rename_i hk; simp; omega
        · cases h
def outText (o : Option (List UInt8 × Nat)) : Value := .tuple #[.string (bs ((o.map (·.1)).getD [])), .int .i64 (((o.map (·.2)).getD 0 : Nat) : Int), .bool o.isSome]
theorem ReadVar_none (s : ByteArray) (w : World) (hs : s.size ≤ maxLen) (h : readVar s.data.toList = none) :
    Calls Tryd.prog 63 #[.string s] w fun e w' => e = .returned (.tuple #[.int .u64 0, .int .i64 0, .bool false]) ∧ Below w.heap.size w w' := by
  have := ReadVar_any s w hs
  rw [h] at this
  exact this
theorem ReadVar_some (s : ByteArray) (n k : Nat) (w : World) (hs : s.size ≤ maxLen) (h : readVar s.data.toList = some (n, k)) :
    Calls Tryd.prog 63 #[.string s] w fun e w' => e = .returned (.tuple #[.int .u64 n, .int .i64 k, .bool true]) ∧ Below w.heap.size w w' := by
  have := ReadVar_any s w hs
  rw [h] at this
  exact this
set_option maxRecDepth 100000 in
set_option maxHeartbeats 2000000 in
theorem ReadText_any (s : ByteArray) (most : Int) (w : World) (hs : s.size ≤ maxLen) (h0 : -9223372036854775808 ≤ most) (h1 : most ≤ 9223372036854775807) :
    Calls Tryd.prog 78 #[.string s, .int .i64 most] w fun e w' => e = .returned (outText (readText s.data.toList most)) ∧ Below w.heap.size w w' := by
  cases hv : readVar s.data.toList with
  | none =>
    have hx := ReadVar_none s w hs hv
    replace hx := Lib.hid hx
    have hr : readText s.data.toList most = none := by unfold readText; rw [hv]
    replace hr := Lib.hid hr
    replace hv := Lib.hid hv
    unfold maxLen at hs
    go_enter Tryd.func78, Tryd.ntmps78
    go_wp2_with fail
    refine hx.out.mono ?_
    rintro e w1 ⟨rfl, hb⟩
    go_wp2_with fail
    go_ret3
    exact ⟨by rw [hr.out]; rfl, hb⟩
  | some q =>
    obtain ⟨n, k⟩ := q
    have hx := ReadVar_some s n k w hs hv
    replace hx := Lib.hid hx
    obtain ⟨k1, k2, k3⟩ := readVar_le hv
    rw [dlen] at k2
    have hn : (n : Int) ≤ 18446744073709551615 := by omega
    clear k3
    unfold maxLen at hs
    by_cases hbad : most < 0 ∨ most < n ∨ s.size - k < n
    · have hr : readText s.data.toList most = none := by unfold readText; rw [hv]; simp only [dlen]; rw [if_pos hbad]
      replace hr := Lib.hid hr
      replace hv := Lib.hid hv
      go_enter Tryd.func78, Tryd.ntmps78
      go_wp2_with fail
      refine hx.out.mono ?_
      rintro e w1 ⟨rfl, hb⟩
      go_wp2_with fail
      all_goals go_ret3
      all_goals exact ⟨by rw [hr.out]; rfl, hb⟩
    · have hr : readText s.data.toList most = some ((s.data.toList.drop k).take n, k + n) := by unfold readText; rw [hv]; simp only [dlen]; rw [if_neg hbad]
      replace hr := Lib.hid hr
      replace hv := Lib.hid hv
      have g1 : 0 ≤ most := by omega
      have g2 : (n : Int) ≤ most := by omega
      have g3 : k + n ≤ s.size := by omega
      clear hbad
      go_enter Tryd.func78, Tryd.ntmps78
      go_wp2_with fail
      refine hx.out.mono ?_
      rintro e w1 ⟨rfl, hb⟩
      go_wp2_with fail
      go_ret3
      refine ⟨?_, hb⟩
      rw [hr.out, ext_bs, show k + n - k = n from by omega]
      simp [outText]
theorem sizeB : ∃ j, Tryd.prog.info? 88 = some j ∧ j.size = 2 := by
  obtain ⟨j, hj, hs⟩ := Option.map_eq_some_iff.1 (show (Tryd.prog.info? 88).map (·.size) = some 2 by kernel_rfl)
  exact ⟨j, hj, hs⟩
set_option maxHeartbeats 1000000 in
set_option maxRecDepth 100000 in
theorem copyCheck_used (b : Nat) (w : World) (h0 : w.cell? ⟨b, 0, none⟩ = some (.pointer (some ⟨b, 0, none⟩))) :
    Calls Tryd.prog 64 #[.pointer (some ⟨b, 0, none⟩)] w fun e w' => e = .returned (.tuple #[]) ∧ w' = w := by
  obtain ⟨j, hj, _⟩ := sizeB
  go_enter Tryd.func64, Tryd.ntmps64
  go_wp2
  rw [Lib.run_neq_ptr_same w _ Tryd.underlying86 hj]
  go_wp2
  go_end0
  exact ⟨rfl, rfl⟩
set_option maxHeartbeats 1000000 in
set_option maxRecDepth 100000 in
theorem copyCheck_fresh (b : Nat) (w : World) (h0 : w.cell? ⟨b, 0, none⟩ = some (.pointer none)) (hsh : w.shape? b = some (88, 2)) (hfz : w.frozen? ⟨b, 0, none⟩ = false) :
    Calls Tryd.prog 64 #[.pointer (some ⟨b, 0, none⟩)] w fun e w' => e = .returned (.tuple #[]) ∧ w' = w.setCell ⟨b, 0, none⟩ (.pointer (some ⟨b, 0, none⟩)) := by
  obtain ⟨j, hj, hjs⟩ := sizeB
  go_enter Tryd.func64, Tryd.ntmps64
  go_wp2
  rw [Lib.run_to_unsafe w ⟨b, 0, none⟩ Tryd.underlying86 Tryd.underlying149 hj (by rw [hjs]; decide) hsh (Nat.zero_lt_succ 1)]
  simp only [Result.andThen]
  rw [Oper.upon_value]
  go_wp2
  rw [run_callFunc_extern Tryd.func82 (by kernel_rfl) (by kernel_rfl) (by kernel_rfl) (e := Extern.AbiNoEscape.same) (by kernel_rfl)]
  rw [Lib.run_noEscape]
  simp only [Result.andThen]
  rw [Oper.upon_value]
  go_wp2
  rw [Lib.run_from_unsafe w ⟨b, 0, none⟩ Tryd.underlying149 Tryd.underlying86 hj hsh (by kernel_rfl)]
  simp only [Result.andThen]
  rw [Oper.upon_value]
  go_wp2
  go_end0
  exact ⟨rfl, rfl⟩
theorem copyCheck_any (B b : Nat) (bs : List Value) (w : World) (h : Lib.IsBuilder 88 5 B b bs w) :
    Calls Tryd.prog 64 #[.pointer (some ⟨b, 0, none⟩)] w fun e w' => e = .returned (.tuple #[]) ∧ (Lib.BuilderAt 88 5 B b (.pointer (some ⟨b, 0, none⟩)) bs w' ∧ Below B w w') := by
  rcases h with h | h
  · refine (copyCheck_fresh b w h.cell0 h.shape h.frozen0).mono ?_
    rintro e w' ⟨rfl, rfl⟩
    exact ⟨rfl, h.used _, (Below.refl B w).setCell (p := ⟨b, 0, none⟩) h.1 _⟩
  · refine (copyCheck_used b w h.cell0).mono ?_
    rintro e w' ⟨rfl, rfl⟩
    exact ⟨rfl, h, Below.refl B _⟩
set_option maxHeartbeats 2000000 in
set_option maxRecDepth 100000 in
theorem WriteString_any (B b : Nat) (bs : List Value) (s : ByteArray) (w : World) (h : Lib.IsBuilder 88 5 B b bs w) (hlen : bs.length + s.size ≤ 140737488355328) (hBw : B ≤ w.heap.size) :
    Calls Tryd.prog 39 #[.pointer (some ⟨b, 0, none⟩), .string s] w fun e w' => e = .returned (.tuple #[.int .i64 s.size, .nilIface]) ∧ (Lib.BuilderAt 88 5 B b (.pointer (some ⟨b, 0, none⟩)) (bs ++ Lib.strCells s) w' ∧ Below B w w') := by
  obtain ⟨i0, hi, hz0, hz1, hz2⟩ := info_parts u8_info
  go_enter Tryd.func39, Tryd.ntmps39
  go_wp2_with (go_at_call 64; refine (copyCheck_any B b bs _ h).mono ?_)
  rintro e w1 ⟨rfl, h1, hb1⟩
  obtain ⟨hB, v, hbk, hown, hne⟩ := h1
  have c0 : w1.cell? ⟨b, 0, none⟩ = some (.pointer (some ⟨b, 0, none⟩)) := by rw [Lib.cell_of_heap hbk]; rfl
  have c1 : w1.cell? ⟨b, 1, none⟩ = some v := by rw [Lib.cell_of_heap hbk]; rfl
  go_wp2_with (at_builtin; refine Lib.wpList_append_own_string _ rfl _ _ 34 9 rfl B 5 i0 Tryd.underlying34 Tryd.underlying9 hi hz0 hz1 hz2 _ _ _ rfl hown s rfl ?c3 ?c4 ?c5 ?_)
  case c3 => unfold maxLen; omega
  case c4 => omega
  case c5 => have := hb1.size; omega
  intro v' w2 hown' hgrow _
  have hlt : b < w1.heap.size := by
    rcases Nat.lt_or_ge b w1.heap.size with h' | h'
    · exact h'
    · simp [Array.getElem?_eq_none h'] at hbk
  have hb2 : w2.heap[b]? = some (.cells #[.pointer (some ⟨b, 0, none⟩), v] 88 (0, 0)) := by
    rw [hgrow.block b hlt (fun e => hne e.symm)]
    exact hbk
  have d0 : w2.cell? ⟨b, 0, none⟩ = some (.pointer (some ⟨b, 0, none⟩)) := by rw [Lib.cell_of_heap hb2]; rfl
  have d1 : w2.cell? ⟨b, 1, none⟩ = some v := by rw [Lib.cell_of_heap hb2]; rfl
  have f1 : w2.frozen? ⟨b, 1, none⟩ = false := Lib.frozen_of_heap hb2 1
  obtain ⟨ao, n', cap, rfl⟩ : ∃ ao n' cap, v' = .slice ao n' cap := by
    rcases hown'.2 with ⟨hv, _⟩ | ⟨g, cap, cur, hv, _⟩
    · exact ⟨_, _, _, hv⟩
    · exact ⟨_, _, _, hv⟩
  go_wp2
  go_ret2
  refine ⟨rfl, ?_, ?_⟩
  · exact Lib.BuilderAt.put (T := 88) (e := 5) hB hb2 (bs' := bs ++ Lib.strCells s) (by simpa [Lib.strCells_length] using hown') (by decide)
  · exact (hb1.grown hgrow (by have := hb1.size; omega) (fun k hk => (hown.lt k hk).1)).setCell (p := ⟨b, 1, none⟩) hB _
theorem own_below {w w' : World} {B : Nat} {e : TypeId} {v : Value} {n : Nat} {xs : List Value} (h : w.ownsRow B e 1 v n xs) (hb : Below w.heap.size w w') : w'.ownsRow B e 1 v n xs := by
  refine ⟨h.1, h.2.imp id ?_⟩
  rintro ⟨g, cap, cur, hv, h1, hg, rest⟩
  refine ⟨g, cap, cur, hv, h1, ?_, rest⟩
  rw [hb.block g (by
    rcases Nat.lt_or_ge g w.heap.size with h' | h'
    · exact h'
    · rw [Array.getElem?_eq_none h'] at hg; cases hg)]
  exact hg
def IsB (B b : Nat) (l : List UInt8) (w : World) : Prop := Lib.IsBuilder 88 5 B b (Lib.byteCells l) w
theorem at_below {w w' : World} {B b : Nat} {p : Value} {xs : List Value} (h : Lib.BuilderAt 88 5 B b p xs w) (hb : Below w.heap.size w w') : Lib.BuilderAt 88 5 B b p xs w' := by
  have hlt := h.lt
  obtain ⟨hB, v, hbk, hown, hne⟩ := h
  exact ⟨hB, v, (hb.block b hlt).trans hbk, own_below hown hb, hne⟩
theorem IsB.below {w w' : World} {B b : Nat} {l : List UInt8} (h : IsB B b l w) (hb : Below w.heap.size w w') : IsB B b l w' := h.imp (fun h => at_below h hb) (fun h => at_below h hb)
theorem IsB.new (w : World) : IsB w.heap.size w.heap.size [] (w.alloc (.cells #[.pointer none, .slice none 0 0] 88)) :=
  .inl ⟨Nat.le_refl _, _, heap_alloc_new w _, World.ownsRow_nil _ _ _ 1, by simp [Value.ownBlock]⟩
theorem IsB.drew {w : World} {B b : Nat} {l : List UInt8} (h : IsB B b l w) : IsB B b l w.drew := h.below ((Below.refl _ _).drew)
theorem IsB.lt {w : World} {B b : Nat} {l : List UInt8} (h : IsB B b l w) : b < w.heap.size := h.elim (·.lt) (·.lt)
theorem write_any (B b : Nat) (l : List UInt8) (s : ByteArray) (w : World) (h : IsB B b l w) (hlen : l.length + s.size ≤ 140737488355328) (hBw : B ≤ w.heap.size) :
    Calls Tryd.prog 39 #[.pointer (some ⟨b, 0, none⟩), .string s] w fun e w' => e = .returned (.tuple #[.int .i64 s.size, .nilIface]) ∧ (IsB B b (l ++ s.data.toList) w' ∧ Below B w w') := by
  refine (WriteString_any B b _ s w h (by rw [Lib.byteCells_length]; exact hlen) hBw).mono ?_
  rintro e w' ⟨he, h1, hb⟩
  refine ⟨he, .inr ?_, hb⟩
  rw [Lib.byteCells_append]
  exact h1
/-- Var of one number, whose slice was just made. -/
theorem Var_one (b : Nat) (n : Int) (w : World) (hb : b < w.heap.size) (hc : w.cell? ⟨b, 0, none⟩ = some (.int .u64 n)) (h0 : 0 ≤ n) (h1 : n ≤ 18446744073709551615) :
    Calls Tryd.prog 52 #[.slice (some ⟨b, 0, none⟩) 1 1] w fun e w' => e = .returned (.string (bs (varL1 n.toNat))) ∧ Below w.heap.size w w' := by
  have h := Var_any (some ⟨b, 0, none⟩) [n] 1 w ⟨rfl, fun _ => ⟨_, rfl, hb, fun j u hu => by
    cases j with
    | zero =>
      simp at hu
      subst hu
      exact hc
    | succ j => simp at hu⟩⟩ (fun m hm => by simp at hm; subst hm; exact ⟨h0, h1⟩) (by simp)
  simpa [varL_one, bs] using h
def keyL : List Nat → List UInt8
  | [] => []
  | n :: ns => 1 :: varL1 n ++ keyL ns
theorem keyL_snoc (a : List Nat) (n : Nat) : keyL (a ++ [n]) = keyL a ++ (1 :: varL1 n) := by
  induction a with
  | nil => simp [keyL]
  | cons x a ih => simp [keyL, ih]
theorem keyL_len : ∀ a : List Nat, (keyL a).length ≤ 10 * a.length
  | [] => by simp [keyL]
  | n :: a => by have := varL1_len n; have := keyL_len a; simp [keyL]; omega
def partsV (ns : List Int) : List Value := ns.flatMap fun n => [.bool false, .string ⟨#[]⟩, .int .u64 n]
theorem partsV_at : ∀ (ns : List Int) (k : Nat) (n : Int), ns[k]? = some n → (partsV ns)[k * 3]? = some (.bool false) ∧ (partsV ns)[k * 3 + 1]? = some (.string ⟨#[]⟩) ∧ (partsV ns)[k * 3 + 2]? = some (.int .u64 n)
  | [], k, n, h => by simp at h
  | m :: ns, 0, n, h => by simp at h; subst h; simp [partsV]
  | m :: ns, k + 1, n, h => by
    have ih := partsV_at ns k n (by simpa using h)
    rw [show (k + 1) * 3 = k * 3 + 3 from by omega]
    simpa [partsV] using ih
theorem add_pos (a : Addr) (i : Nat) : a.add (i + 1) = ⟨a.block, a.off + (i + 1), none⟩ := by simp [Addr.add]
set_option maxRecDepth 100000 in
set_option maxHeartbeats 2000000 in
theorem Key_any (A : Option Addr) (ns : List Int) (cap : Nat) (w : World) (hr : Reads w w.heap.size 3 A ns.length (partsV ns)) (hns : ∀ n ∈ ns, U64 n) (hlen : ns.length ≤ 4294967296) :
    Calls Tryd.prog 43 #[.slice A ns.length cap] w fun e w' => e = .returned (.string (bs (keyL (ns.map Int.toNat)))) ∧ Below w.heap.size w w' := by
  go_enter Tryd.func43, Tryd.ntmps43
  go_wp2
  go_loopw [8] (fun i wr => ∃ (k : Nat), k ≤ ns.length ∧ i = .int .i64 k ∧ IsB w.heap.size w.heap.size (keyL ((ns.take k).map Int.toNat)) wr ∧ Below w.heap.size w wr) (fun i _ => ns.length - (intOf i).toNat)
  case atStart => exact ⟨0, Nat.zero_le _, rfl, IsB.new w, (Below.refl _ _).alloc (Nat.le_refl _) _⟩
  case round =>
    obtain ⟨k, hk, rfl, ho, hb0⟩ := hrel
    by_cases hlt : k < ns.length
    · obtain ⟨ad, rfl, hab, hcell⟩ := (hr.below hb0).2 (by omega)
      have hn := List.getElem?_eq_getElem hlt
      obtain ⟨q0, q1, q2⟩ := partsV_at ns k _ hn
      obtain ⟨n0, n1⟩ := hns _ (List.getElem_mem hlt)
      replace q0 := hcell _ _ q0
      replace q1 := hcell _ _ q1
      replace q2 := hcell _ _ q2
      rw [← add_of_add, add_pos] at q1 q2
      have hll := keyL_len ((ns.take k).map Int.toNat)
      rw [List.length_map, List.length_take] at hll
      have hsn : keyL ((ns.take (k + 1)).map Int.toNat) = keyL ((ns.take k).map Int.toNat) ++ (1 :: varL1 ns[k].toNat) := by
        rw [List.take_succ_eq_append_getElem hlt, List.map_append, List.map_cons, List.map_nil, keyL_snoc]
      replace hsn := Lib.hid hsn
      generalize ns[k] = n at *
      replace hn := Lib.hid hn
      generalize keyL ((ns.take k).map Int.toNat) = L at *
      have hz := hb0.size
      have hbl := ho.lt
      clear hcell
      go_wp2_with fail
      refine (Var_one _ n _ (by simp) (by simp [go_sem]) n0 n1).mono ?_
      rintro e w1 ⟨rfl, hb1⟩
      have ho1 : IsB w.heap.size w.heap.size L w1 := ho.below (((Below.refl _ _).alloc (Nat.le_refl _) _ |>.alloc (by simp) _).trans (hb1.mono (by simp; omega)))
      have hz1 := hb1.size
      simp at hz1
      have hvl := varL1_len n.toNat
      have q3 : 1 + (bs (varL1 n.toNat)).size ≤ 9223372036854775807 := by rw [bs_size]; omega
      go_wp2_with fail
      have q4 : (({ data := #[1] } : ByteArray) ++ bs (varL1 n.toNat)).size = 1 + (varL1 n.toNat).length := by rw [ByteArray.size_append, bs_size]; rfl
      refine (write_any w.heap.size w.heap.size L _ _ ho1 (by rw [q4]; omega) (by omega)).mono ?_
      rintro e w2 ⟨rfl, ho2, hb2⟩
      go_wp2_with fail
      refine ⟨⟨k + 1, by omega, by go_num, ?_, ?_⟩, by simp [intOf]; omega⟩
      · rw [hsn.out]
        simpa [bs] using ho2
      · exact ((((hb0.alloc (by omega) _).alloc (by simp; omega) _).trans (hb1.mono (by simp; omega))).trans hb2)
    · obtain rfl : k = ns.length := by omega
      go_wp2_with fail
      refine (Tryd.Builder_String_any w.heap.size w.heap.size _ _ ho hb0.size).mono ?_
      rintro e w1 ⟨rfl, hb1⟩
      go_wp2_with fail
      go_ret
      exact ⟨by simp [bs], hb0.trans hb1⟩
end Go.Proofs.YtfnlponoakhegaaDoor
namespace Go.Proofs.YtfnlponoakhegaaDoor
set_option linter.unusedVariables false
set_option linter.unusedSimpArgs false
theorem bitLenAux_spec : ∀ (f n : Nat), 0 < n → n < 2 ^ f → 2 ^ (Lib.bitLenAux f n - 1) ≤ n ∧ n < 2 ^ Lib.bitLenAux f n ∧ 1 ≤ Lib.bitLenAux f n
  | 0, n, h, h' => by simp at h'; omega
  | f + 1, n, h, h' => by
    unfold Lib.bitLenAux
    split
    · omega
    · rename_i hn
      by_cases h2 : n / 2 = 0
      · have : n = 1 := by omega
        subst this
        cases f <;> simp [Lib.bitLenAux]
      · have ih := bitLenAux_spec f (n / 2) (by omega) (by rw [Nat.pow_succ] at h'; omega)
        obtain ⟨a, b, c⟩ := ih
        generalize Lib.bitLenAux f (n / 2) = m at *
        obtain ⟨m, rfl⟩ : ∃ m', m = m' + 1 := ⟨m - 1, by omega⟩
        simp only [Nat.add_sub_cancel] at a
        have e1 : 1 + (m + 1) - 1 = m + 1 := by omega
        have e2 : 1 + (m + 1) = m + 1 + 1 := by omega
        first
          | (rw [e1, e2, Nat.pow_succ 2 m, Nat.pow_succ 2 (m + 1)]; exact ⟨by omega, by omega, by omega⟩)
          | (simp only [Nat.add_sub_cancel]; rw [Nat.pow_succ 2 m, Nat.pow_succ 2 (m + 1)]; exact ⟨by omega, by omega, by omega⟩)
theorem behindN_spec (n : Nat) (h : 248 ≤ n) (h' : n < 18446744073709551616) : n < 256 ^ behindN n ∧ 256 ^ (behindN n - 1) ≤ n := by
  obtain ⟨a, b, c⟩ := bitLenAux_spec 64 n (by omega) (by omega)
  have e : behindN n = (Lib.bitLenAux 64 n + 7) / 8 := by unfold behindN; rw [if_neg (by omega)]; rfl
  rw [e]
  generalize Lib.bitLenAux 64 n = m at *
  have p : (256 : Nat) = 2 ^ 8 := by decide
  rw [p, ← Nat.pow_mul, ← Nat.pow_mul]
  exact ⟨Nat.lt_of_lt_of_le b (Nat.pow_le_pow_right (by omega) (by omega)), Nat.le_trans (Nat.pow_le_pow_right (by omega) (by omega)) a⟩
theorem beV_foldl (l : List UInt8) : ∀ n : Nat, l.foldl (fun n c => n * 256 + c.toNat) n = n * 256 ^ l.length + beV l := by
  induction l with
  | nil => intro n; simp [beV]
  | cons c l ih =>
    intro n
    have h1 := ih (n * 256 + c.toNat)
    have h2 := ih (0 * 256 + c.toNat)
    simp only [List.foldl_cons, beV] at h1 h2 ⊢
    rw [h1, h2, List.length_cons, Nat.pow_succ]
    simp only [Nat.add_mul, Nat.zero_mul, Nat.zero_add]
    rw [Nat.mul_assoc, Nat.mul_comm 256]
    omega
theorem beV_cons (c : UInt8) (l : List UInt8) : beV (c :: l) = c.toNat * 256 ^ l.length + beV l := by
  have := beV_foldl l (0 * 256 + c.toNat)
  simp only [Nat.zero_mul, Nat.zero_add] at this
  simpa [beV] using this
theorem beV_big (n : Nat) : ∀ w, beV (bigL n w) = n % 256 ^ w
  | 0 => by simp [bigL, beV, Nat.mod_one]
  | w + 1 => by
    show beV (UInt8.ofNat (n / 256 ^ w) :: bigL n w) = _
    have e : 256 ^ (w + 1) = 256 ^ w * 256 := Nat.pow_succ ..
    have : (2 : Nat) ^ 8 = 256 := by decide
    rw [beV_cons, beV_big n w, bigL_len, UInt8.toNat_ofNat', this, e, Nat.mod_mul, Nat.mul_comm (n / 256 ^ w % 256)]
    omega
theorem readVar_var (n : Nat) (h : n < 18446744073709551616) (rest : List UInt8) : readVar (varL1 n ++ rest) = some (n, (varL1 n).length) := by
  unfold varL1
  by_cases hlo : n < 248
  · have hb : behindN n = 0 := by unfold behindN; rw [if_pos hlo]
    rw [hb, if_neg (by omega)]
    simp only [List.singleton_append, readVar, UInt8.toNat_ofNat']
    rw [if_pos (by omega)]
    simp
    omega
  · obtain ⟨a, b⟩ := behindN_spec n (by omega) h
    have h8 := behindN_le n
    have hp : 0 < behindN n := by
      rcases Nat.eq_zero_or_pos (behindN n) with h0 | h0
      · rw [h0] at a; simp at a; omega
      · exact h0
    rw [if_pos hp]
    have e1 : (UInt8.ofNat (247 + behindN n)).toNat = 247 + behindN n := by rw [UInt8.toNat_ofNat']; omega
    simp only [List.cons_append, readVar, e1]
    rw [if_neg (by omega), show 247 + behindN n - 247 = behindN n from by omega]
    have hrb : readBig (bigL n (behindN n) ++ rest) ((behindN n : Nat) : Int) = some n := by
      unfold readBig
      rw [if_neg (by rw [List.length_append, bigL_len]; omega)]
      rw [Int.toNat_natCast, List.take_append_of_le_length (by rw [bigL_len]; omega), List.take_of_length_le (by rw [bigL_len]; omega), beV_big, Nat.mod_eq_of_lt a]
    rw [hrb]
    simp [bigL_len]
    omega
theorem readText_text (a : List UInt8) (most : Nat) (h : a.length ≤ most) (hm : most < 4294967296) : readText (textL [a]) most = some (a, (textL [a]).length) := by
  unfold readText
  simp only [textL, List.append_nil]
  rw [readVar_var a.length (by omega) a]
  simp only []
  rw [if_neg (by simp; omega)]
  simp
theorem readText_row (a rest : List UInt8) (most : Nat) (h : a.length ≤ most) (hm : most < 4294967296) : readText (varL1 a.length ++ a ++ rest) most = some (a, (varL1 a.length).length + a.length) := by
  unfold readText
  rw [List.append_assoc, readVar_var a.length (by omega)]
  simp only []
  rw [if_neg (by simp; omega)]
  simp
theorem readBig_big (n width : Nat) (rest : List UInt8) (h0 : 1 ≤ width) (h8 : width ≤ 8) (h : n < 256 ^ width) : readBig (bigL n width ++ rest) width = some n := by
  unfold readBig
  rw [if_neg (by rw [List.length_append, bigL_len]; omega)]
  rw [Int.toNat_natCast, List.take_append_of_le_length (by rw [bigL_len]; omega), List.take_of_length_le (by rw [bigL_len]; omega), beV_big, Nat.mod_eq_of_lt h]
theorem bigL_inj {n m width : Nat} (hn : n < 256 ^ width) (hm : m < 256 ^ width) (h : bigL n width = bigL m width) : n = m := by
  have := congrArg beV h
  rw [beV_big, beV_big, Nat.mod_eq_of_lt hn, Nat.mod_eq_of_lt hm] at this
  exact this
abbrev L := List UInt8
theorem snocRec {α : Type} {motive : List α → Prop} (nil : motive []) (snoc : ∀ l a, motive l → motive (l ++ [a])) (l : List α) : motive l := by
  rw [← List.reverse_reverse l]
  generalize l.reverse = r
  induction r with
  | nil => exact nil
  | cons a r ih => rw [List.reverse_cons]; exact snoc _ _ ih
def lessL (a b : L) : Bool := Op.bytesLess a b
theorem less_irrefl : ∀ a : L, lessL a a = false
  | [] => rfl
  | c :: a => by
    have ih := less_irrefl a
    unfold lessL at ih ⊢
    simp [Op.bytesLess, ih]
theorem u8_lt_tri (a b : UInt8) : a < b ∨ a = b ∨ b < a := by
  rcases Nat.lt_trichotomy a.toNat b.toNat with h | h | h
  · exact .inl (UInt8.lt_iff_toNat_lt.2 h)
  · exact .inr (.inl (UInt8.toNat_inj.1 h))
  · exact .inr (.inr (UInt8.lt_iff_toNat_lt.2 h))
theorem u8_not_lt {a b : UInt8} (h : a < b) : ¬ b < a ∧ a ≠ b := by
  rw [UInt8.lt_iff_toNat_lt] at h
  refine ⟨fun h' => ?_, fun h' => ?_⟩
  · rw [UInt8.lt_iff_toNat_lt] at h'; omega
  · subst h'; omega
/-- Not above: below, or the same. -/
theorem less_tri : ∀ a b : L, (lessL a b || a == b) = !lessL b a
  | [], [] => rfl
  | [], _ :: _ => rfl
  | _ :: _, [] => by simp [lessL, Op.bytesLess]
  | a :: x, b :: y => by
    have ih := less_tri x y
    unfold lessL at ih ⊢
    simp only [Op.bytesLess, List.cons_beq_cons]
    rcases u8_lt_tri a b with h | h | h
    · obtain ⟨h1, h2⟩ := u8_not_lt h
      simp [h, h1, Ne.symm h2, h2]
    · subst h
      simp [ih]
    · obtain ⟨h1, h2⟩ := u8_not_lt h
      simp [h, h1, h2, Ne.symm h2]
theorem less_trans : ∀ {a b c : L}, lessL a b = true → lessL b c = true → lessL a c = true
  | _, [], _, h, _ => by cases ‹L› <;> simp [lessL, Op.bytesLess] at h
  | _, _ :: _, [], _, h => by simp [lessL, Op.bytesLess] at h
  | [], _ :: _, _ :: _, _, _ => rfl
  | a :: x, b :: y, c :: z, h1, h2 => by
    have ih := @less_trans x y z
    unfold lessL at ih h1 h2 ⊢
    simp only [Op.bytesLess, Bool.or_eq_true, Bool.and_eq_true, decide_eq_true_eq, beq_iff_eq] at h1 h2 ⊢
    rcases h1 with h1 | ⟨rfl, h1⟩
    · rcases h2 with h2 | ⟨rfl, h2⟩
      · refine .inl ?_
        rw [UInt8.lt_iff_toNat_lt] at *
        omega
      · exact .inl h1
    · rcases h2 with h2 | ⟨rfl, h2⟩
      · exact .inl h2
      · exact .inr ⟨rfl, ih h1 h2⟩
theorem less_asymm {a b : L} (h : lessL a b = true) : lessL b a = false := by
  rcases hb : lessL b a with _ | _
  · rfl
  · have := less_trans h hb
    rw [less_irrefl] at this
    cases this
def sharedL : L → L → Nat
  | a :: az, b :: bs => if a = b then sharedL az bs + 1 else 0
  | [], _ => 0
  | _ :: _, [] => 0
theorem sharedL_le : ∀ a b : L, sharedL a b ≤ a.length ∧ sharedL a b ≤ b.length
  | [], b => by simp [sharedL]
  | _ :: _, [] => by simp [sharedL]
  | a :: az, b :: bs => by
    have ih := sharedL_le az bs
    unfold sharedL
    split
    · simp; omega
    · simp
theorem sharedL_take : ∀ a b : L, a.take (sharedL a b) = b.take (sharedL a b)
  | [], b => by simp [sharedL]
  | _ :: _, [] => by simp [sharedL]
  | a :: az, b :: bs => by
    have ih := sharedL_take az bs
    unfold sharedL
    split
    · rename_i h
      subst h
      simp [ih]
    · simp
theorem readVar_z {l : L} {n k : Nat} (h : readVar l = some (n, k)) : k ≤ l.length := by
  cases l with
  | nil => simp [readVar] at h
  | cons c r =>
    simp only [readVar] at h
    split at h
    · simp at h; obtain ⟨rfl, rfl⟩ := h; simp
    · split at h
      · cases h
      · rename_i m hm
        split at h
        · simp at h
          obtain ⟨rfl, rfl⟩ := h
          unfold readBig at hm
          split at hm
          · cases hm
          · rename_i hk; simp; omega
        · cases h
theorem readText_z {l t : L} {m : Int} {z : Nat} (h : readText l m = some (t, z)) : z ≤ l.length := by
  unfold readText at h
  split at h
  · cases h
  · rename_i n k hv
    have := readVar_z hv
    split at h
    · cases h
    · injection h with h
      injection h with h1 h2
      omega
theorem readText_t {l t : L} {m : Int} {z : Nat} (h : readText l m = some (t, z)) : t.length ≤ l.length := by
  unfold readText at h
  split at h
  · cases h
  · split at h
    · cases h
    · injection h with h
      injection h with h1 h2
      subst h1
      simp
      omega
/-- A builder. -/
structure BB where
  b : L
  starts : List Nat
  count : Nat
  last : L
def BB.new : BB := ⟨[], [], 0, []⟩
def BB.err (s : BB) (k v : L) : Nat := if 1024 < k.length ∨ 1024 < v.length then 3 else if 0 < s.count ∧ lessL s.last k = false then 1 else 0
def BB.lead (s : BB) (k : L) : Nat := if s.count % 4 = 0 then 0 else sharedL s.last k
def BB.enc (s : BB) (k v : L) : L := varL1 (s.lead k) ++ (textL [k.drop (s.lead k), v])
def BB.put (s : BB) (k v : L) : BB := ⟨s.b ++ s.enc k v, if s.count % 4 = 0 then s.starts ++ [s.b.length] else s.starts, s.count + 1, k⟩
def BB.add (s : BB) (k v : L) : BB := if s.err k v = 0 then s.put k v else s
def BB.size (s : BB) : Nat := s.b.length + 4 * (s.starts.length + 1)
def fours (l : List Nat) : L := l.flatMap fun n => bigL n 4
def BB.out (s : BB) : L := s.b ++ fours (s.starts ++ [s.count])
theorem fours_len (l : List Nat) : (fours l).length = 4 * l.length := by
  induction l with
  | nil => rfl
  | cons n l ih =>
    have : fours (n :: l) = bigL n 4 ++ fours l := rfl
    rw [this, List.length_append, bigL_len, ih, List.length_cons]
    omega
theorem BB.out_len (s : BB) : s.out.length = s.size := by
  unfold BB.out BB.size
  rw [List.length_append, fours_len]
  simp
theorem BB.lead_le (s : BB) (k : L) : s.lead k ≤ k.length := by
  unfold BB.lead
  split
  · omega
  · exact (sharedL_le _ _).2
theorem BB.enc_len (s : BB) (k v : L) : (s.enc k v).length ≤ k.length + v.length + 27 := by
  unfold BB.enc
  have h1 := varL1_len (s.lead k)
  have h2 := varL1_len (k.drop (s.lead k)).length
  have h3 := varL1_len v.length
  simp only [textL, List.length_append, List.append_nil, List.length_drop] at h2 ⊢
  omega
/-- An entry at a place, behind a key. -/
def nextP (s : L) (at_ : Nat) (ahead : L) : Option (L × L × Nat) :=
  match readVar (s.drop at_) with
  | none => none
  | some (n, z) => if ahead.length < n then none else
    match readText (s.drop (at_ + z)) 1024 with
    | none => none
    | some (rest, z1) =>
      match readText (s.drop (at_ + z + z1)) 1024 with
      | none => none
      | some (v, z2) => some (ahead.take n ++ rest, v, at_ + z + z1 + z2)
def rdB (s : L) : Nat → Option (L × Nat × BB × List (L × L))
  | 0 => some ([], 0, BB.new, [])
  | i + 1 => match rdB s i with
    | none => none
    | some (key, p, bb, es) => match nextP s p key with
      | none => none
      | some (k, v, q) => if bb.err k v = 0 then some (k, q, bb.put k v, es ++ [(k, v)]) else none
def openB (s : L) : Option (List (L × L)) :=
  match readBig (s.drop (s.length - 4)) 4 with
  | none => none
  | some c => if s.length / 4 - 1 < (c + 3) / 4 then none else
    match rdB (s.take (s.length - 4 * ((c + 3) / 4 + 1))) c with
    | none => none
    | some (_, _, bb, es) => if bb.out = s then some es else none
def foldB (es : List (L × L)) : BB := es.foldl (fun s e => s.put e.1 e.2) BB.new
theorem foldB_snoc (es : List (L × L)) (e : L × L) : foldB (es ++ [e]) = (foldB es).put e.1 e.2 := by simp [foldB]
/-- Entries that a builder takes. -/
def ValidB (es : List (L × L)) : Prop := ∀ i k v, es[i]? = some (k, v) → (foldB (es.take i)).err k v = 0
theorem ValidB.take {es : List (L × L)} (h : ValidB es) (n : Nat) : ValidB (es.take n) := by
  intro i k v hi
  have hlt : i < n := by
    rcases Nat.lt_or_ge i n with h' | h'
    · exact h'
    · rw [List.getElem?_eq_none (by simp; omega)] at hi
      cases hi
  rw [List.getElem?_take_of_lt hlt] at hi
  rw [List.take_take, Nat.min_eq_left (by omega)]
  exact h i k v hi
theorem ValidB.snoc {es : List (L × L)} {k v : L} (h : ValidB es) (he : (foldB es).err k v = 0) : ValidB (es ++ [(k, v)]) := by
  intro i k' v' hi
  rcases Nat.lt_trichotomy i es.length with hl | hl | hl
  · rw [List.getElem?_append_left hl] at hi
    rw [List.take_append_of_le_length (by omega)]
    exact h i k' v' hi
  · subst hl
    simp at hi
    obtain ⟨rfl, rfl⟩ := hi
    simp
    exact he
  · rw [List.getElem?_eq_none (by simp; omega)] at hi
    cases hi
theorem ValidB.nil : ValidB [] := fun i k v h => by simp at h
theorem foldB_count (es : List (L × L)) : (foldB es).count = es.length := by
  induction es using snocRec with
  | nil => rfl
  | snoc es e ih => rw [foldB_snoc]; simp [BB.put, ih]
theorem rdB_spec (s : L) : ∀ (n : Nat) k p bb es, rdB s n = some (k, p, bb, es) → bb = foldB es ∧ ValidB es ∧ es.length = n := by
  intro n
  induction n with
  | zero =>
    intro k p bb es h
    simp [rdB] at h
    obtain ⟨_, _, rfl, rfl⟩ := h
    exact ⟨rfl, ValidB.nil, rfl⟩
  | succ n ih =>
    intro k p bb es h
    unfold rdB at h
    split at h
    · cases h
    · rename_i k0 p0 bb0 es0 h0
      obtain ⟨h1, h2, h3⟩ := ih _ _ _ _ h0
      split at h
      · cases h
      · split at h
        · rename_i he
          injection h with h
          injection h with ha hb
          injection hb with hb hc
          injection hc with hc hd
          subst ha hb hc hd h1
          exact ⟨by rw [foldB_snoc], h2.snoc he, by simp [h3]⟩
        · cases h
theorem openB_some {s : L} {es : List (L × L)} (h : openB s = some es) : ValidB es ∧ (foldB es).out = s := by
  unfold openB at h
  split at h
  · cases h
  · split at h
    · cases h
    · split at h
      · cases h
      · rename_i h0
        obtain ⟨h1, h2, h3⟩ := rdB_spec _ _ _ _ _ _ h0
        split at h
        · rename_i hs
          injection h with h
          subst h h1
          exact ⟨h2, hs⟩
        · cases h
/-- Where the i-th entry begins. -/
def posB (es : List (L × L)) (i : Nat) : Nat := (foldB (es.take i)).b.length
theorem take_snoc {es : List (L × L)} {i : Nat} {e : L × L} (h : es[i]? = some e) : es.take (i + 1) = es.take i ++ [e] := by
  rw [List.take_add_one, h]
  rfl
theorem foldB_take_succ {es : List (L × L)} {i : Nat} {e : L × L} (h : es[i]? = some e) : foldB (es.take (i + 1)) = (foldB (es.take i)).put e.1 e.2 := by
  rw [take_snoc h, foldB_snoc]
theorem foldB_pre (es : List (L × L)) (i : Nat) : ∃ r, (foldB es).b = (foldB (es.take i)).b ++ r := by
  induction es using snocRec with
  | nil => exact ⟨[], by simp [foldB]⟩
  | snoc es e ih =>
    rcases Nat.lt_or_ge es.length i with h | h
    · exact ⟨[], by rw [List.take_of_length_le (by simp; omega)]; simp⟩
    · obtain ⟨r, hr⟩ := ih
      rw [List.take_append_of_le_length h, foldB_snoc]
      exact ⟨r ++ (foldB es).enc e.1 e.2, by simp [BB.put, hr]⟩
theorem posB_len (es : List (L × L)) (i : Nat) : posB es i ≤ (foldB es).b.length := by
  obtain ⟨r, hr⟩ := foldB_pre es i
  rw [hr, List.length_append]
  exact Nat.le_add_right _ _
theorem foldB_last {es : List (L × L)} {i : Nat} {e : L × L} (h : es[i]? = some e) : (foldB (es.take (i + 1))).last = e.1 := by
  rw [foldB_take_succ h]
  rfl
theorem err_len {s : BB} {k v : L} (h : s.err k v = 0) : k.length ≤ 1024 ∧ v.length ≤ 1024 := by
  unfold BB.err at h
  split at h
  · cases h
  · omega
theorem next_enc (s : BB) (k v pre r ahead : L) (he : s.err k v = 0) (ha : s.count % 4 ≠ 0 → ahead = s.last) : nextP (pre ++ s.enc k v ++ r) pre.length ahead = some (k, v, pre.length + (s.enc k v).length) := by
  obtain ⟨hk, hv⟩ := err_len he
  have hll := s.lead_le k
  have hn : s.lead k < 18446744073709551616 := by omega
  have e1 : (pre ++ s.enc k v ++ r).drop pre.length = varL1 (s.lead k) ++ (varL1 (k.drop (s.lead k)).length ++ k.drop (s.lead k) ++ (varL1 v.length ++ v ++ r)) := by
    rw [List.append_assoc, List.drop_left]
    simp [BB.enc, textL]
  have hal : s.lead k ≤ ahead.length := by
    unfold BB.lead
    split
    · omega
    · rename_i hc
      rw [ha hc]
      exact (sharedL_le _ _).1
  unfold nextP
  rw [e1, readVar_var _ hn]
  simp only []
  rw [if_neg (by omega), ← List.drop_drop, e1, List.drop_left, show (1024 : Int) = ((1024 : Nat) : Int) from rfl, readText_row _ _ 1024 (by simp; omega) (by decide)]
  simp only []
  rw [← List.drop_drop, ← List.drop_drop, ← List.drop_drop, e1, List.drop_left, List.append_assoc, List.drop_left, List.drop_left, readText_row _ _ 1024 hv (by decide)]
  simp only []
  have ht : ahead.take (s.lead k) ++ k.drop (s.lead k) = k := by
    have : ahead.take (s.lead k) = k.take (s.lead k) := by
      unfold BB.lead
      split
      · simp
      · rename_i hc
        rw [ha hc]
        exact sharedL_take _ _
    rw [this, List.take_append_drop]
  rw [ht]
  simp [BB.enc, textL]
  omega
/-- Reading at an entry's place. -/
theorem next_at {es : List (L × L)} (hv : ValidB es) {i : Nat} {k v : L} (h : es[i]? = some (k, v)) (ahead : L) (ha : i % 4 ≠ 0 → ∃ e, es[i - 1]? = some e ∧ ahead = e.1) :
    nextP (foldB es).b (posB es i) ahead = some (k, v, posB es (i + 1)) := by
  obtain ⟨r, hr⟩ := foldB_pre es (i + 1)
  rw [hr, foldB_take_succ h]
  have he := hv i k v h
  have hp1 : posB es (i + 1) = posB es i + ((foldB (es.take i)).enc k v).length := by
    unfold posB
    rw [foldB_take_succ h]
    simp [BB.put]
  rw [hp1]
  refine next_enc _ k v _ r ahead he ?_
  rw [foldB_count, List.length_take]
  have hi : i < es.length := by
    rcases Nat.lt_or_ge i es.length with h' | h'
    · exact h'
    · rw [List.getElem?_eq_none h'] at h; cases h
  rw [Nat.min_eq_left (by omega)]
  intro hc
  obtain ⟨e, h1, h2⟩ := ha hc
  have h0 : 0 < i := by
    rcases Nat.eq_zero_or_pos i with h0 | h0
    · subst h0; simp at hc
    · exact h0
  have := foldB_last h1
  rw [show i - 1 + 1 = i from by omega] at this
  rw [h2, this]
theorem rdB_fold {es : List (L × L)} (hv : ValidB es) : ∀ n, n ≤ es.length → ∃ k, (∀ e, es[n - 1]? = some e → 0 < n → k = e.1) ∧ rdB (foldB es).b n = some (k, posB es n, foldB (es.take n), es.take n) := by
  intro n
  induction n with
  | zero =>
    intro _
    exact ⟨[], fun e h h0 => absurd h0 (by omega), by simp [rdB, posB, foldB, BB.new]⟩
  | succ n ih =>
    intro hn
    obtain ⟨k0, hk0, h0⟩ := ih (by omega)
    have hlt : n < es.length := by omega
    obtain ⟨k, v, he⟩ : ∃ k v, es[n]? = some (k, v) := ⟨es[n].1, es[n].2, List.getElem?_eq_getElem hlt⟩
    refine ⟨k, fun e h _ => ?_, ?_⟩
    · rw [show n + 1 - 1 = n from rfl, he] at h
      injection h with h
      rw [← h]
    · have hnx := next_at hv he k0 (fun hm => by
        have hp : 0 < n := by
          rcases Nat.eq_zero_or_pos n with h | h
          · subst h; simp at hm
          · exact h
        have hl : n - 1 < es.length := by omega
        exact ⟨es[n - 1], List.getElem?_eq_getElem hl, hk0 _ (List.getElem?_eq_getElem hl) hp⟩)
      unfold rdB
      rw [h0]
      simp only []
      rw [hnx]
      simp only []
      rw [if_pos (hv n k v he), foldB_take_succ he, take_snoc he]
theorem foldB_starts (es : List (L × L)) : (foldB es).starts.length = (es.length + 3) / 4 := by
  induction es using snocRec with
  | nil => rfl
  | snoc es e ih =>
    rw [foldB_snoc]
    unfold BB.put
    rw [foldB_count]
    simp only [List.length_append, List.length_cons, List.length_nil]
    split
    · rw [List.length_append, ih]; simp; omega
    · rw [ih]; omega
theorem openB_out {es : List (L × L)} (hv : ValidB es) (hl : es.length < 4294967296) : openB (foldB es).out = some es := by
  have hlen := BB.out_len (foldB es)
  have hst := foldB_starts es
  unfold BB.size at hlen
  have hout : (foldB es).out = ((foldB es).b ++ fours (foldB es).starts) ++ (bigL es.length 4 ++ []) := by
    unfold BB.out fours
    rw [List.flatMap_append]
    simp [foldB_count]
  have hdr : (foldB es).out.drop ((foldB es).out.length - 4) = bigL es.length 4 ++ [] := by
    rw [hlen, hout]
    have : (foldB es).b.length + 4 * ((foldB es).starts.length + 1) - 4 = ((foldB es).b ++ fours (foldB es).starts).length := by rw [List.length_append, fours_len]; omega
    rw [this, List.drop_left]
  unfold openB
  rw [hdr, show (4 : Int) = ((4 : Nat) : Int) from rfl, readBig_big es.length 4 [] (by decide) (by decide) (by simpa using hl)]
  simp only []
  rw [if_neg (by rw [hlen, hst]; omega)]
  have htk : (foldB es).out.take ((foldB es).out.length - 4 * ((es.length + 3) / 4 + 1)) = (foldB es).b := by
    rw [hlen, hst]
    unfold BB.out
    rw [show (foldB es).b.length + 4 * ((es.length + 3) / 4 + 1) - 4 * ((es.length + 3) / 4 + 1) = (foldB es).b.length from by omega, List.take_left]
  rw [htk]
  obtain ⟨k, _, h0⟩ := rdB_fold hv es.length (Nat.le_refl _)
  rw [h0]
  simp
/-- Where the i-th entry that is read begins. -/
def atR (s : L) (i : Nat) : Nat := ((rdB s i).map (·.2.1)).getD 0
def stR (s : L) : Nat → List Nat
  | 0 => []
  | i + 1 => if i % 4 = 0 then stR s i ++ [atR s i] else stR s i
theorem stR_fold {es : List (L × L)} (hv : ValidB es) : ∀ n, n ≤ es.length → stR (foldB es).b n = (foldB (es.take n)).starts := by
  intro n
  induction n with
  | zero => intro _; rfl
  | succ n ih =>
    intro hn
    have ih := ih (by omega)
    obtain ⟨k, _, h0⟩ := rdB_fold hv n (by omega)
    have hlt : n < es.length := by omega
    have he : es[n]? = some es[n] := List.getElem?_eq_getElem hlt
    rw [foldB_take_succ he]
    unfold stR BB.put
    rw [foldB_count, List.length_take, Nat.min_eq_left (by omega), ih]
    unfold atR
    rw [h0]
    rfl
theorem starts_at {es : List (L × L)} : ∀ j, 4 * j < es.length → (foldB es).starts[j]? = some (posB es (4 * j)) := by
  induction es using snocRec with
  | nil => intro j h; simp at h
  | snoc es e ih =>
    intro j h
    simp at h
    rw [foldB_snoc]
    have hs := foldB_starts es
    have hps : 4 * j ≤ es.length → posB (es ++ [e]) (4 * j) = posB es (4 * j) := fun hl => by
      unfold posB
      rw [List.take_append_of_le_length hl]
    unfold BB.put
    rw [foldB_count]
    simp only []
    by_cases hj : 4 * j < es.length
    · rw [hps (by omega)]
      split
      · rw [List.getElem?_append_left (by omega)]
        exact ih j hj
      · exact ih j hj
    · have he : es.length = 4 * j := by omega
      rw [if_pos (by omega), hps (by omega), List.getElem?_append_right (by omega), hs, show j - (es.length + 3) / 4 = 0 from by omega]
      unfold posB
      rw [List.take_of_length_le (by omega)]
      rfl
theorem rdB_le (s : L) : ∀ n k p bb es, rdB s n = some (k, p, bb, es) → p ≤ s.length ∧ (k.length ≤ 1024) ∧ bb.b.length ≤ 2075 * n ∧ bb.starts.length ≤ n ∧ bb.last.length ≤ 1024 ∧ (∀ m ∈ bb.starts, m ≤ 2075 * n) := by
  intro n
  induction n with
  | zero =>
    intro k p bb es h
    simp [rdB] at h
    obtain ⟨rfl, rfl, rfl, rfl⟩ := h
    simp [BB.new]
  | succ n ih =>
    intro k p bb es h
    unfold rdB at h
    split at h
    · cases h
    · rename_i k0 p0 bb0 es0 h0
      obtain ⟨i1, i2, i3, i4, i5, i6⟩ := ih _ _ _ _ h0
      split at h
      · cases h
      · rename_i k1 v1 q1 hn
        split at h
        · rename_i he
          injection h with h
          injection h with ha hb
          injection hb with hb hc
          injection hc with hc hd
          subst ha hb hc hd
          obtain ⟨hk, hv⟩ := err_len he
          have hel := bb0.enc_len k1 v1
          refine ⟨?_, hk, ?_, ?_, hk, ?_⟩
          · unfold nextP at hn
            split at hn
            · cases hn
            · rename_i n1 z hz
              split at hn
              · cases hn
              · split at hn
                · cases hn
                · rename_i rest z1 hz1
                  split at hn
                  · cases hn
                  · rename_i v2 z2 hz2
                    injection hn with hn
                    injection hn with e1 e2
                    injection e2 with e2 e3
                    have := readText_z hz2
                    have := readText_z hz1
                    have := readVar_z hz
                    simp only [List.length_drop] at *
                    omega
          · simp [BB.put]
            omega
          · simp only [BB.put]
            split
            · simp; omega
            · omega
          · simp only [BB.put]
            intro m hm
            split at hm
            · rcases List.mem_append.1 hm with hm | hm
              · have := i6 m hm; omega
              · simp at hm; omega
            · have := i6 m hm; omega
        · cases h
theorem stR_len (s : L) : ∀ n, (stR s n).length ≤ n := by
  intro n
  induction n with
  | zero => exact Nat.le_refl _
  | succ n ih =>
    unfold stR
    split
    · simp; exact ih
    · omega
theorem rdB_succ {s : L} {i : Nat} {k : L} {p : Nat} {bb : BB} {es : List (L × L)} (h : rdB s i = some (k, p, bb, es)) : rdB s (i + 1) = match nextP s p k with
    | none => none
    | some (k, v, q) => if bb.err k v = 0 then some (k, q, bb.put k v, es ++ [(k, v)]) else none := by
  rw [rdB, h]
theorem rdB_stop (s : L) (c : Nat) : ∀ i, i ≤ c → rdB s i = none → rdB s c = none := by
  induction c with
  | zero =>
    intro i hi h
    obtain rfl : i = 0 := by omega
    exact h
  | succ c ih =>
    intro i hi h
    by_cases he : i = c + 1
    · rw [← he]; exact h
    · rw [rdB, ih i (by omega) h]
theorem nextP_len {s : L} {p : Nat} {ahead k v : L} {q : Nat} (h : nextP s p ahead = some (k, v, q)) : k.length ≤ ahead.length + s.length ∧ v.length ≤ s.length := by
  unfold nextP at h
  split at h
  · cases h
  · rename_i n1 z hz
    split at h
    · cases h
    · split at h
      · cases h
      · rename_i rest z1 hz1
        split at h
        · cases h
        · rename_i v2 z2 hz2
          injection h with h
          injection h with e1 e2
          injection e2 with e2 e3
          have h1 := readText_z hz1
          have h2 := readText_z hz2
          have h3 := readText_t hz1
          have h4 := readText_t hz2
          simp only [List.length_drop] at h3 h4
          subst e1 e2
          simp only [List.length_append, List.length_take]
          omega
/-- Is the i-th entry below a key? -/
def belowP (es : List (L × L)) (key : L) (i : Nat) : Bool := match es[i]? with
  | some e => lessL e.1 key
  | none => false
def seekP (es : List (L × L)) (key : L) : Nat := (es.takeWhile fun e => lessL e.1 key).length
theorem seekP_eq (key : L) : ∀ (es : List (L × L)) (i : Nat), (∀ j, j < i → belowP es key j = true) → belowP es key i = false → seekP es key = i
  | [], i, h, h' => by
    rcases Nat.eq_zero_or_pos i with h0 | h0
    · subst h0; rfl
    · have := h 0 h0
      simp [belowP] at this
  | e :: es, 0, h, h' => by
    simp only [belowP, List.getElem?_cons_zero] at h'
    simp [seekP, List.takeWhile_cons, h']
  | e :: es, i + 1, h, h' => by
    have h0 := h 0 (by omega)
    simp only [belowP, List.getElem?_cons_zero] at h0
    have ih := seekP_eq key es i (fun j hj => by
      have := h (j + 1) (by omega)
      simpa [belowP] using this) (by simpa [belowP] using h')
    unfold seekP at ih ⊢
    rw [List.takeWhile_cons, h0]
    simp [ih]
theorem valid_step {es : List (L × L)} (hv : ValidB es) {i : Nat} {a b : L × L} (ha : es[i]? = some a) (hb : es[i + 1]? = some b) : lessL a.1 b.1 = true := by
  have he := hv (i + 1) b.1 b.2 hb
  unfold BB.err at he
  split at he
  · cases he
  · rw [foldB_last ha, foldB_count] at he
    split at he
    · cases he
    · rename_i hh
      rcases hq : lessL a.1 b.1 with _ | _
      · refine absurd ⟨?_, hq⟩ hh
        rw [List.length_take]
        have : i + 1 < es.length := (List.getElem?_eq_some_iff.1 hb).1
        omega
      · rfl
theorem valid_lt {es : List (L × L)} (hv : ValidB es) : ∀ (d i : Nat) {a b : L × L}, es[i]? = some a → es[i + d + 1]? = some b → lessL a.1 b.1 = true
  | 0, i, a, b, ha, hb => valid_step hv ha hb
  | d + 1, i, a, b, ha, hb => by
    have hl : i + d + 1 < es.length := by
      have : i + (d + 1) + 1 < es.length := (List.getElem?_eq_some_iff.1 hb).1
      omega
    have hc : es[i + d + 1]? = some es[i + d + 1] := List.getElem?_eq_getElem hl
    exact less_trans (valid_lt hv d i ha hc) (valid_step hv hc hb)
theorem below_mono {es : List (L × L)} (hv : ValidB es) {key : L} {i j : Nat} (hij : i ≤ j) (h : belowP es key j = true) : belowP es key i = true := by
  unfold belowP at h ⊢
  rcases hj : es[j]? with _ | b
  · rw [hj] at h; cases h
  · rw [hj] at h
    have hl : j < es.length := (List.getElem?_eq_some_iff.1 hj).1
    have hi : es[i]? = some es[i] := List.getElem?_eq_getElem (by omega)
    rw [hi]
    rcases Nat.lt_or_ge i j with hlt | hge
    · have := valid_lt hv (j - i - 1) i hi (by rw [show i + (j - i - 1) + 1 = j from by omega]; exact hj)
      exact less_trans this h
    · obtain rfl : i = j := by omega
      rw [hi] at hj
      injection hj with hj
      simp only [hj]
      exact h
theorem seekP_le (es : List (L × L)) (key : L) : seekP es key ≤ es.length := by
  unfold seekP
  exact (List.takeWhile_sublist _).length_le
def escL : L → L
  | [] => []
  | c :: r => if c = 0 then 0 :: 255 :: escL r else c :: escL r
def strKey (k : L) : L := 2 :: (escL k ++ [0, 1])
theorem escL_len : ∀ k : L, (escL k).length ≤ 2 * k.length ∧ k.length ≤ (escL k).length
  | [] => by simp [escL]
  | c :: r => by
    have := escL_len r
    unfold escL
    split <;> simp <;> omega
theorem zero_ne : ([0] : List UInt8) ≠ [] := by simp
theorem esc_repl : ∀ s : L, Lib.replaceK [0] [0, 255] (Lib.count s [0]) s = escL s ∧ Lib.count s [0] ≤ s.length
  | [] => by
    have : Lib.count [] [0] = 0 := Lib.count_miss rfl
    rw [this]
    exact ⟨rfl, Nat.zero_le _⟩
  | c :: t => by
    obtain ⟨ih1, ih2⟩ := esc_repl t
    by_cases hc : c = 0
    · subst hc
      have hi : Lib.index (0 :: t) [0] = ((0 : Nat) : Int) := by simp [Lib.index]
      have hn := Lib.count_hit zero_ne hi
      have hd : (0 :: t).drop (0 + ([0] : L).length) = t := by simp
      rw [hd] at hn
      rw [hn, Nat.add_comm 1, Lib.replaceK_hit _ _ _ _ 0 hi, hd, ih1]
      refine ⟨by simp [escL], by simp; omega⟩
    · have hp : ([0] : L).isPrefixOf (c :: t) = false := by
        simp [List.isPrefixOf]
        exact fun e => hc e.symm
      by_cases hm : Lib.index t [0] = -1
      · have hi : Lib.index (c :: t) [0] = -1 := by
          unfold Lib.index
          rw [hp, if_neg (by decide), hm]
          rfl
        rw [Lib.count_miss hi]
        rw [Lib.count_miss hm] at ih1
        refine ⟨?_, Nat.zero_le _⟩
        have : escL (c :: t) = c :: escL t := by rw [escL, if_neg hc]
        rw [this, ← ih1]
        rfl
      · obtain ⟨i, hi⟩ : ∃ i : Nat, Lib.index t [0] = i := by
          have := Lib.index_ge t [0]
          exact ⟨(Lib.index t [0]).toNat, by omega⟩
        have hi2 : Lib.index (c :: t) [0] = ((i + 1 : Nat) : Int) := by
          unfold Lib.index
          rw [hp, if_neg (by decide), if_neg (by simpa using hm), hi]
          omega
        have hn := Lib.count_hit zero_ne hi
        have hn2 := Lib.count_hit zero_ne hi2
        have hd : (c :: t).drop (i + 1 + ([0] : L).length) = t.drop (i + ([0] : L).length) := by simp
        rw [hd] at hn2
        rw [hn2, Nat.add_comm 1, Lib.replaceK_hit _ _ _ _ (i + 1) hi2, hd]
        rw [hn, Nat.add_comm 1, Lib.replaceK_hit _ _ _ _ i hi] at ih1
        have : escL (c :: t) = c :: escL t := by rw [escL, if_neg hc]
        rw [this, ← ih1]
        refine ⟨by simp, ?_⟩
        rw [hn] at ih2
        show _ ≤ t.length + 1
        omega
theorem repl_esc (s : L) : Lib.replaceAll s [0] [0, 255] = escL s := by
  unfold Lib.replaceAll Lib.replace
  rw [if_neg (by decide)]
  unfold Lib.replaceNum
  rw [if_pos (.inl (by decide))]
  exact (esc_repl s).1
/-- A text's bytes, behind their first one. -/
def rtK : L → L → Option (L × L)
  | [], _ => none
  | [_], _ => none
  | a :: b :: r, acc => if a = 0 then (if b = 1 then some (acc, r) else if b = 255 then rtK r (acc ++ [0]) else none) else rtK (b :: r) (acc ++ [a])
theorem rtK_skip : ∀ (p r acc : L), (∀ c ∈ p, c ≠ 0) → rtK (p ++ 0 :: r) acc = rtK (0 :: r) (acc ++ p)
  | [], r, acc, _ => by simp
  | [a], r, acc, h => by
    have := h a (by simp)
    show rtK (a :: 0 :: r) acc = _
    rw [rtK, if_neg this]
  | a :: b :: p, r, acc, h => by
    have h1 := h a (by simp)
    have ih := rtK_skip (b :: p) r (acc ++ [a]) (fun c hc => h c (by simp at hc ⊢; right; exact hc))
    show rtK (a :: b :: (p ++ 0 :: r)) acc = _
    rw [rtK, if_neg h1]
    rw [show b :: (p ++ 0 :: r) = b :: p ++ 0 :: r from rfl, ih]
    simp
theorem rtK_none : ∀ (p acc : L), (∀ c ∈ p, c ≠ 0) → rtK p acc = none
  | [], _, _ => rfl
  | [_], _, _ => rfl
  | a :: b :: p, acc, h => by
    rw [rtK, if_neg (h a (by simp))]
    exact rtK_none (b :: p) _ (fun c hc => h c (by simp at hc ⊢; right; exact hc))
theorem rtK_last : ∀ (p acc : L), (∀ c ∈ p, c ≠ 0) → rtK (p ++ [0]) acc = none
  | [], _, _ => rfl
  | [a], acc, h => by
    show rtK [a, 0] acc = none
    rw [rtK, if_neg (h a (by simp))]
    rfl
  | a :: b :: p, acc, h => by
    show rtK (a :: b :: (p ++ [0])) acc = none
    rw [rtK, if_neg (h a (by simp))]
    exact rtK_last (b :: p) _ (fun c hc => h c (by simp at hc ⊢; right; exact hc))
theorem rtK_esc : ∀ (k r acc : L), rtK (escL k ++ 0 :: 1 :: r) acc = some (acc ++ k, r)
  | [], r, acc => by simp [escL, rtK]
  | c :: k, r, acc => by
    by_cases hc : c = 0
    · subst hc
      have ih := rtK_esc k r (acc ++ [0])
      unfold escL
      rw [if_pos rfl]
      show rtK (0 :: 255 :: (escL k ++ 0 :: 1 :: r)) acc = _
      rw [rtK, if_pos rfl, if_neg (by decide), if_pos rfl, ih]
      simp
    · have ih := rtK_esc k r (acc ++ [c])
      unfold escL
      rw [if_neg hc]
      have hne : ∃ b t, escL k ++ 0 :: 1 :: r = b :: t := by
        rcases h : escL k with _ | ⟨b, t⟩
        · exact ⟨_, _, rfl⟩
        · exact ⟨b, t ++ 0 :: 1 :: r, rfl⟩
      obtain ⟨b, t, hbt⟩ := hne
      show rtK (c :: (escL k ++ 0 :: 1 :: r)) acc = _
      rw [hbt] at ih ⊢
      rw [rtK, if_neg hc, ih]
      simp
theorem rtK_len : ∀ (s acc t r : L), rtK s acc = some (t, r) → r.length + 2 ≤ s.length ∧ t.length ≤ acc.length + s.length
  | [], _, _, _, h => by cases h
  | [_], _, _, _, h => by cases h
  | a :: b :: s, acc, t, r, h => by
    rw [rtK] at h
    split at h
    · split at h
      · injection h with h
        injection h with h1 h2
        subst h1 h2
        simp
      · split at h
        · have := rtK_len s _ t r h
          simp at this ⊢; omega
        · cases h
    · have := rtK_len (b :: s) _ t r h
      simp at this ⊢; omega
structure Pt where
  text : Bool
  s : L
  n : Nat
def partsF : Nat → L → List Pt → Option (List Pt)
  | _, [], out => some out
  | 0, _ :: _, _ => none
  | f + 1, c :: r, out => if c = 1 then (match readVar r with
      | none => none
      | some (n, z) => partsF f (r.drop z) (out ++ [⟨false, [], n⟩]))
    else if c = 2 then (match rtK r [] with
      | none => none
      | some (t, rest) => partsF f rest (out ++ [⟨true, t, 0⟩]))
    else none
def partsP (k : L) : Option (List Pt) := partsF k.length k []
theorem partsP_str (k : L) : partsP (strKey k) = some [⟨true, k, 0⟩] := by
  unfold partsP strKey
  rw [List.length_cons, partsF, if_neg (by decide), if_pos rfl, show escL k ++ [0, 1] = escL k ++ 0 :: 1 :: [] from rfl, rtK_esc]
  simp [partsF]
/-- A table's entry. -/
structure Ent where
  key : L
  value : L
  seq : Nat
  gone : Bool
def internalL (key : L) (seq : Nat) : L := strKey key ++ bigL (18446744073709551615 - seq) 8
def entryP (k v : L) : Option Ent := if k.length < 8 ∨ v = [] then none else
  match partsP (k.take (k.length - 8)) with
  | some [p] => some ⟨p.s, v.drop 1, 18446744073709551615 - beV (k.drop (k.length - 8)), v.take 1 == [1]⟩
  | _ => none
def rowK (e : Ent) : L := internalL e.key e.seq
def rowV (e : Ent) : L := (if e.gone then 1 else 0) :: e.value
theorem entryP_row (e : Ent) (h : e.seq ≤ 18446744073709551615) : entryP (rowK e) (rowV e) = some e := by
  have hl : (rowK e).length - 8 = (strKey e.key).length := by unfold rowK internalL; rw [List.length_append, bigL_len]; omega
  unfold entryP
  rw [if_neg (by unfold rowV rowK internalL; rw [List.length_append, bigL_len]; simp), hl]
  unfold rowK internalL
  rw [List.take_left, List.drop_left, partsP_str]
  simp only []
  rw [beV_big, Nat.mod_eq_of_lt (by omega)]
  unfold rowV
  obtain ⟨k, v, q, g⟩ := e
  cases g <;> simp at h ⊢ <;> omega
theorem internalL_len (k : L) (q : Nat) : (internalL k q).length ≤ 2 * k.length + 11 := by
  have := escL_len k
  unfold internalL strKey
  rw [List.length_append, bigL_len]
  simp
  omega
end Go.Proofs.YtfnlponoakhegaaDoor
namespace Go.Proofs.YtfnlponoakhegaaDoor
open Go.RowKit
set_option linter.unusedVariables false
set_option linter.unusedSimpArgs false
theorem bitLen_le {n k : Nat} (h : n < 2 ^ k) : Lib.bitLen n ≤ k := by
  have : ∀ f x k, x < 2 ^ k → Lib.bitLenAux f x ≤ k := by
    intro f
    induction f with
    | zero => intro x k _; simp [Lib.bitLenAux]
    | succ f ih =>
      intro x k hx
      unfold Lib.bitLenAux
      split
      · omega
      · cases k with
        | zero => simp at hx; omega
        | succ k =>
          have := ih (x / 2) k (by rw [Nat.pow_succ] at hx; omega)
          omega
  exact this 64 n k h
set_option maxRecDepth 100000 in
set_option maxHeartbeats 1000000 in
theorem Big_any (n width : Nat) (w : World) (hw0 : 1 ≤ width) (hw : width ≤ 8) (hn : n < 256 ^ width) :
    Calls Tryd.prog 42 #[.int .u64 (n : Nat), .int .i64 (width : Nat)] w fun e w' => e = .returned (.tuple #[.string (bs (bigL n width)), .int .i64 0]) ∧ Below w.heap.size w w' := by
  have h256 : 256 ^ width ≤ 256 ^ 8 := Nat.pow_le_pow_right (by omega) hw
  have hn64 : n ≤ 18446744073709551615 := by
    have : (256 : Nat) ^ 8 = 18446744073709551616 := by decide
    omega
  have hbl : Lib.bitLen n ≤ 8 * width := bitLen_le (by
    rw [Nat.pow_mul]
    exact hn)
  have hn64' : (n : Int) ≤ 18446744073709551615 := by omega
  have hlen := Tryd.bits_Len64 (n : Int) w (by omega) hn64'
  have hput := put_any w.heap.size (.slice none 0 0) [] (n : Int) width w (by omega) hn64' hw (OwnB.nil _ _) (Nat.le_refl _) (by simp)
  simp only [Int.toNat_natCast] at hlen hput
  have hbl' : ¬ ((8 : Int) * width < (Lib.bitLen n : Nat)) := by omega
  replace hlen := Lib.hid hlen
  replace hput := Lib.hid hput
  generalize hbn : Lib.bitLen n = bn at *
  clear h256 hn64 hn64' hbl hn hbn
  go_enter Tryd.func42, Tryd.ntmps42
  go_wp2_with fail
  refine hlen.out.mono ?_
  rintro e w' ⟨rfl, rfl⟩
  go_wp2_with fail
  refine hput.out.mono ?_
  rintro e w2 ⟨v', rfl, ho, hg⟩
  have ht := ho.text
  have hb := hg.below (B := w'.heap.size) (Nat.le_refl _) (fun k e => by cases e)
  replace hb := Lib.hid hb
  clear hg ho
  go_wp2_with fail
  go_ret2
  exact ⟨by simp [bs], hb.out⟩
/-- A number's four bytes; none if it is too great. -/
def bigX (n : Nat) : List UInt8 := if n < 4294967296 then bigL n 4 else []
theorem bigX_of {n : Nat} (h : n < 4294967296) : bigX n = bigL n 4 := if_pos h
theorem bigX_le (n : Nat) : (bigX n).length ≤ 4 := by
  unfold bigX
  split
  · rw [bigL_len]; exact Nat.le_refl _
  · simp
set_option maxRecDepth 100000 in
set_option maxHeartbeats 1000000 in
theorem Big_over (n : Nat) (w : World) (h0 : 4294967296 ≤ n) (hn : n < 18446744073709551616) :
    Calls Tryd.prog 42 #[.int .u64 (n : Nat), .int .i64 4] w fun e w' => e = .returned (.tuple #[.string ⟨#[]⟩, .int .i64 3]) ∧ Below w.heap.size w w' := by
  have hbl : 32 < Lib.bitLen n := by
    obtain ⟨a, b, c⟩ := bitLenAux_spec 64 n (by omega) hn
    have e : Lib.bitLen n = Lib.bitLenAux 64 n := rfl
    rw [e]
    rcases Nat.lt_or_ge 32 (Lib.bitLenAux 64 n) with h | h
    · exact h
    · have := Nat.pow_le_pow_right (n := 2) (by omega) h
      have : (2 : Nat) ^ 32 = 4294967296 := by decide
      omega
  have hlen := Tryd.bits_Len64 (n : Int) w (by omega) (by omega)
  simp only [Int.toNat_natCast] at hlen
  have hbl' : ((32 : Int) < (Lib.bitLen n : Nat)) := by omega
  replace hlen := Lib.hid hlen
  generalize Lib.bitLen n = bn at *
  clear hbl h0
  have hn' : (n : Int) < 18446744073709551616 := by omega
  clear hn
  go_enter Tryd.func42, Tryd.ntmps42
  go_wp2_with fail
  refine hlen.out.mono ?_
  rintro e w' ⟨rfl, rfl⟩
  go_wp2_with fail
  go_ret2
  exact ⟨rfl, Below.refl _ _⟩
def bigE (n : Nat) : Nat := if n < 4294967296 then 0 else 3
theorem Big_x (n : Nat) (w : World) (hn : n < 18446744073709551616) :
    Calls Tryd.prog 42 #[.int .u64 (n : Nat), .int .i64 4] w fun e w' => e = .returned (.tuple #[.string (bs (bigX n)), .int .i64 (bigE n : Nat)]) ∧ Below w.heap.size w w' := by
  by_cases h : n < 4294967296
  · have := Big_any n 4 w (by decide) (by decide) h
    unfold bigX bigE
    rw [if_pos h, if_pos h]
    exact this
  · have := Big_over n w (by omega) hn
    unfold bigX bigE
    rw [if_neg h, if_neg h]
    exact this
def crcTab : List Nat := [0, 498536548, 997073096, 651767980, 1994146192, 1802195444, 1303535960, 1342533948, 3988292384, 4027552580, 3604390888, 3412177804, 2607071920, 2262029012, 2685067896, 3183342108]
def crcT (i : Nat) : Nat := crcTab.getD i 0
def crcNib (s : Nat) : Nat := s / 16 ^^^ crcT (s % 16)
def crcByte (s : Nat) (c : UInt8) : Nat := crcNib (crcNib (s ^^^ c.toNat))
def crcSum (l : List UInt8) : Nat := l.foldl crcByte 4294967295
def crcL (l : List UInt8) : Nat := 4294967295 ^^^ crcSum l
theorem crcT_lt (i : Nat) : crcT i < 4294967296 := by
  unfold crcT
  by_cases h : i < 16
  · have : ∀ j : Fin 16, crcTab.getD j.val 0 < 4294967296 := by decide
    exact this ⟨i, h⟩
  · rw [List.getD_eq_getElem?_getD, List.getElem?_eq_none (by simp [crcTab]; omega)]
    decide
theorem xor_lt {a b : Nat} (ha : a < 4294967296) (hb : b < 4294967296) : a ^^^ b < 4294967296 := Nat.xor_lt_two_pow (n := 32) ha hb
theorem crcNib_lt {s : Nat} (h : s < 4294967296) : crcNib s < 4294967296 := xor_lt (by omega) (crcT_lt _)
theorem crcByte_lt {s : Nat} (h : s < 4294967296) (c : UInt8) : crcByte s c < 4294967296 := crcNib_lt (crcNib_lt (xor_lt h (by have := c.toNat_lt; omega)))
theorem crcFold_lt (l : List UInt8) : ∀ {s : Nat}, s < 4294967296 → l.foldl crcByte s < 4294967296 := by
  induction l with
  | nil => exact fun h => h
  | cons c l ih => exact fun h => ih (crcByte_lt h c)
theorem crcL_lt (l : List UInt8) : crcL l < 4294967296 := xor_lt (by decide) (crcFold_lt l (by decide))
/-- The table that Crc reads is where it was laid. -/
def TabAt (w : World) : Prop := ∀ i, i < 16 → w.cell? ⟨0, i, none⟩ = some (.int .u32 (crcT i : Nat))
theorem cell_lt {w : World} {a : Addr} {v : Value} (h : w.cell? a = some v) : a.block < w.heap.size := by
  rcases Nat.lt_or_ge a.block w.heap.size with h' | h'
  · exact h'
  · unfold World.cell? at h
    rw [Array.getElem?_eq_none h'] at h
    cases h
theorem TabAt.pos {w : World} (h : TabAt w) : 0 < w.heap.size := cell_lt (h 0 (by decide))
theorem plain_cell {w : World} {a : Addr} {v : Value} (h : w.cell? (a.add 0) = some v) : ∃ b o, a = ⟨b, o, none⟩ := by
  obtain ⟨b, o, s⟩ := a
  cases s with
  | none => exact ⟨b, o, rfl⟩
  | some f =>
    exfalso
    unfold Addr.add World.cell? at h
    split at h <;> (try split at h) <;> simp_all
theorem TabAt.below {w w' : World} {B : Nat} (h : TabAt w) (hb : Below B w w') (hB : 0 < B) : TabAt w' := fun i hi => (hb.cell (p := ⟨0, i, none⟩) hB).trans (h i hi)
set_option maxRecDepth 100000 in
set_option maxHeartbeats 4000000 in
theorem Crc_any {w : World} (hT : TabAt w) (A : Option Addr) (ss : List ByteArray) (cap : Nat) (hr : Reads w w.heap.size 1 A ss.length (ss.map Value.string)) (hlen : ss.length ≤ 4294967296) (hs : ∀ s ∈ ss, s.size ≤ 1099511627776) :
    Calls Tryd.prog 30 #[.slice A ss.length cap] w fun e w' => e = .returned (.int .u32 (crcL (ss.flatMap fun s => s.data.toList) : Nat)) ∧ Below w.heap.size w w' := by
  have hT' := Lib.hid hT
  replace hr := Lib.hid hr
  replace hs := Lib.hid hs
  clear hT
  go_enter Tryd.func30, Tryd.ntmps30
  go_wp2_with fail
  go_loopw [3, 10] (fun sv iv wr => ∃ i : Nat, i ≤ ss.length ∧ iv = .int .i64 i ∧ sv = .int .u32 (crcSum ((ss.take i).flatMap fun s => s.data.toList) : Nat) ∧ Below w.heap.size w wr) (fun _ iv _ => ss.length - (intOf iv).toNat)
  case atStart => exact ⟨0, Nat.zero_le _, rfl, rfl, Below.refl _ _⟩
  case round =>
    obtain ⟨i, hi, rfl, rfl, hbr⟩ := hrel
    by_cases hlt : i < ss.length
    · have hlt' : (i : Int) < ss.length := by omega
      have hsi : ss[i]? = some ss[i] := List.getElem?_eq_getElem hlt
      have hsz := hs.out _ (List.getElem_mem hlt)
      obtain ⟨ad, u, rfl, hadB, hu, hcell⟩ := hr.out.at_ hlt
      rw [List.getElem?_map, hsi] at hu
      injection hu with hu
      subst hu
      generalize ss[i] = s at *
      obtain ⟨ad0, u0, e0, _, _, hc0⟩ := hr.out.at_ (k := 0) (by omega)
      injection e0 with e0
      subst e0
      obtain ⟨bb, oo, rfl⟩ := plain_cell hc0
      clear hc0
      have hc1 : w.cell? ⟨bb, oo + i, none⟩ = some (.string s) := by
        rw [show (⟨bb, oo + i, none⟩ : Addr) = (⟨bb, oo, none⟩ : Addr).add i from by cases i <;> simp [Addr.add]]
        exact hcell
      have q0 := (hbr.cell (p := ⟨bb, oo + i, none⟩) hadB).trans hc1
      have hzr := hbr.size
      have hbl : bb < wr.heap.size := by have : bb < w.heap.size := hadB; omega
      obtain ⟨c2, W2, hrun, hbW, hzW, hcells⟩ := conv_bytes wr s
      have htk : (ss.take (i + 1)).flatMap (fun s => s.data.toList) = (ss.take i).flatMap (fun s => s.data.toList) ++ s.data.toList := by
        rw [List.take_add_one, hsi, List.flatMap_append]
        simp
      have hs1 : crcSum ((ss.take (i + 1)).flatMap fun s => s.data.toList) = s.data.toList.foldl crcByte (crcSum ((ss.take i).flatMap fun s => s.data.toList)) := by
        rw [htk]
        unfold crcSum
        rw [List.foldl_append]
      have hS0 : crcSum ((ss.take i).flatMap fun s => s.data.toList) < 4294967296 := crcFold_lt _ (by decide)
      have hbW2 := hbr.trans (hbW.mono hzr)
      have hTW := hT'.out.below hbW2 hT'.out.pos
      generalize crcSum ((ss.take i).flatMap fun s => s.data.toList) = S0 at *
      replace hs1 := Lib.hid hs1
      replace htk := Lib.hid htk
      replace hbr := Lib.hid hbr
      replace hbW := Lib.hid hbW
      replace hbW2 := Lib.hid hbW2
      replace hTW := Lib.hid hTW
      replace hcells := Lib.hid hcells
      replace hsi := Lib.hid hsi
      clear hcell hc1
      go_wp2_with fail
      go_loopw [3, 17] (fun sv jv wq => ∃ j : Nat, j ≤ s.size ∧ jv = .int .i64 j ∧ sv = .int .u32 ((s.data.toList.take j).foldl crcByte S0 : Nat) ∧ W2 = wq) (fun _ jv _ => s.size - (intOf jv).toNat)
      case atStart => exact ⟨0, Nat.zero_le _, rfl, rfl, rfl⟩
      case round =>
        obtain ⟨j, hj, rfl, rfl, rfl⟩ := hrel
        by_cases hjl : j < s.size
        · have hjl' : (j : Int) < s.size := by omega
          have hx := hcells.out j hjl
          have hjd : j < s.data.toList.length := by rw [dlen]; exact hjl
          rw [List.getD_eq_getElem?_getD, List.getElem?_eq_getElem hjd] at hx
          have hsn : (s.data.toList.take (j + 1)).foldl crcByte S0 = crcByte ((s.data.toList.take j).foldl crcByte S0) s.data.toList[j] := by
            rw [List.take_succ_eq_append_getElem hjd, List.foldl_append]
            rfl
          have hlt2 := crcFold_lt (s.data.toList.take j) hS0
          generalize (s.data.toList.take j).foldl crcByte S0 = x0 at *
          generalize s.data.toList[j] = c at *
          unfold B8 at hx
          simp only [Option.getD_some] at hx
          have hcl := c.toNat_lt
          have k1 : bits .xor .u32 (x0 : Int) (c.toNat : Nat) = ((x0 ^^^ c.toNat : Nat) : Int) := u32_xor_nat _ _ hlt2 (by omega)
          have hx1 := xor_lt hlt2 (show c.toNat < 4294967296 by omega)
          rw [show crcByte x0 c = crcNib (crcNib (x0 ^^^ c.toNat)) from rfl] at hsn
          generalize x0 ^^^ c.toNat = x1 at *
          have k2 : bits .and .u32 (x1 : Int) 15 = ((x1 % 16 : Nat) : Int) := by
            have := u32_and_nat x1 15 hx1 (by decide)
            rw [show x1 &&& 15 = x1 % 16 from Nat.and_two_pow_sub_one_eq_mod x1 4] at this
            exact this
          have hm1 : x1 % 16 < 16 := Nat.mod_lt _ (by decide)
          have t1 := hTW.out (x1 % 16) hm1
          have k3 : bits .xor .u32 ((x1 : Int) / 16) (crcT (x1 % 16) : Nat) = ((crcNib x1 : Nat) : Int) := by
            have := u32_xor_nat (x1 / 16) (crcT (x1 % 16)) (by omega) (crcT_lt _)
            rw [show ((x1 / 16 : Nat) : Int) = (x1 : Int) / 16 from by omega] at this
            exact this
          have hx2 := crcNib_lt hx1
          generalize crcT (x1 % 16) = tt1 at *
          generalize x1 % 16 = i1 at *
          generalize crcNib x1 = x2 at *
          have k4 : bits .and .u32 (x2 : Int) 15 = ((x2 % 16 : Nat) : Int) := by
            have := u32_and_nat x2 15 hx2 (by decide)
            rw [show x2 &&& 15 = x2 % 16 from Nat.and_two_pow_sub_one_eq_mod x2 4] at this
            exact this
          have hm2 : x2 % 16 < 16 := Nat.mod_lt _ (by decide)
          have t2 := hTW.out (x2 % 16) hm2
          have k5 : bits .xor .u32 ((x2 : Int) / 16) (crcT (x2 % 16) : Nat) = ((crcNib x2 : Nat) : Int) := by
            have := u32_xor_nat (x2 / 16) (crcT (x2 % 16)) (by omega) (crcT_lt _)
            rw [show ((x2 / 16 : Nat) : Int) = (x2 : Int) / 16 from by omega] at this
            exact this
          generalize crcT (x2 % 16) = tt2 at *
          generalize x2 % 16 = i2 at *
          generalize crcNib x2 = x3 at *
          replace hsn := Lib.hid hsn
          go_wp2_with fail
          exact ⟨⟨j + 1, by omega, by rfl, by rw [hsn.out], trivial⟩, by first | omega | (simp only [intOf]; omega)⟩
        · obtain rfl : j = s.size := by omega
          have hjl' : ¬ (s.size : Int) < s.size := by omega
          rw [List.take_of_length_le (by rw [dlen]; exact Nat.le_refl _)]
          go_wp2_with fail
          refine ⟨⟨i + 1, by omega, by rfl, ?_, hbW2.out⟩, by first | omega | (simp only [intOf]; omega)⟩
          rw [hs1.out]
    · obtain rfl : i = ss.length := by omega
      have hlt' : ¬ (ss.length : Int) < ss.length := by omega
      rw [List.take_length]
      replace hbr := Lib.hid hbr
      have hcl : bits .xor .u32 (IntKind.u32.max : Int) ((crcSum (ss.flatMap fun s => s.data.toList) : Nat) : Int) = (crcL (ss.flatMap fun s => s.data.toList) : Nat) := u32_xor_nat 4294967295 _ (by decide) (crcFold_lt _ (by decide))
      go_wp2_with fail
      go_ret
      exact ⟨rfl, hbr.out⟩
/-- The globals that this package's code reads. -/
structure Gl (w : World) : Prop where
  tab : TabAt w
  mx : ∃ m, w.cell? ⟨1, 0, none⟩ = some (.int .i64 m)
theorem Gl.lt {w : World} (h : Gl w) : 1 < w.heap.size := by
  obtain ⟨m, hm⟩ := h.mx
  exact cell_lt hm
theorem Gl.below {w w' : World} {B : Nat} (h : Gl w) (hb : Below B w w') (hB : 1 < B) : Gl w' :=
  ⟨h.tab.below hb (by omega), h.mx.imp fun m hm => (hb.cell (p := ⟨1, 0, none⟩) hB).trans hm⟩
theorem Gl.kept {w w' : World} {S : Nat → Prop} (h : Gl w) (hk : KeptBut w w' S) (h0 : ¬ S 0) (h1 : ¬ S 1) : Gl w' :=
  ⟨fun i hi => (hk.cell ⟨0, i, none⟩ (by have := h.lt; show 0 < w.heap.size; omega) h0).trans (h.tab i hi), h.mx.imp fun m hm => (hk.cell ⟨1, 0, none⟩ h.lt h1).trans hm⟩
def partV (b : Bool) (s : ByteArray) (n : Nat) : Value := .agg #[.bool b, .string s, .int .u64 (n : Nat)]
set_option maxRecDepth 100000 in
set_option maxHeartbeats 4000000 in
theorem Str_any (s : ByteArray) (w : World) :
    Calls Tryd.prog 44 #[.string s] w fun e w' => e = .returned (partV true s 0) ∧ Below w.heap.size w w' := by
  go_enter Tryd.func44, Tryd.ntmps44
  go_wp2_with fail
  exact bodyPost_ret (v := partV true s 0) (results_cell_row rfl _ _ w.heap.size 97 #[.bool true, .string s, .int .u64 0] (0, 0) _ rfl (heap_alloc_new w _) Tryd.underlying97 rfl (by kernel_rfl)) rfl ⟨rfl, (Below.refl _ _).alloc (Nat.le_refl _) _⟩
set_option maxRecDepth 100000 in
set_option maxHeartbeats 4000000 in
theorem Num_any (n : Nat) (w : World) (hn : n < 18446744073709551616) :
    Calls Tryd.prog 80 #[.int .u64 (n : Nat)] w fun e w' => e = .returned (partV false ⟨#[]⟩ n) ∧ Below w.heap.size w w' := by
  go_enter Tryd.func80, Tryd.ntmps80
  go_wp2_with fail
  exact bodyPost_ret (v := partV false ⟨#[]⟩ n) (results_cell_row rfl _ _ w.heap.size 97 #[.bool false, .string ⟨#[]⟩, .int .u64 (n : Nat)] (0, 0) _ rfl (heap_alloc_new w _) Tryd.underlying97 rfl (by kernel_rfl)) rfl ⟨rfl, (Below.refl _ _).alloc (Nat.le_refl _) _⟩
theorem repl_data (s : ByteArray) : (⟨(Lib.replaceAll s.data.toList (⟨#[0]⟩ : ByteArray).data.toList (⟨#[0, 255]⟩ : ByteArray).data.toList).toArray⟩ : ByteArray) = bs (escL s.data.toList) := by
  rw [show (⟨#[0]⟩ : ByteArray).data.toList = [0] from rfl, show (⟨#[0, 255]⟩ : ByteArray).data.toList = [0, 255] from rfl, repl_esc]
  rfl
set_option maxRecDepth 100000 in
set_option maxHeartbeats 4000000 in
theorem KeyS_any (b : Nat) (s : ByteArray) (w : World) (hG : Gl w) (hc0 : w.cell? ⟨b, 0, none⟩ = some (.bool true)) (hc1 : w.cell? ⟨b, 1, none⟩ = some (.string s)) (hc2 : w.cell? ⟨b, 2, none⟩ = some (.int .u64 0)) (hs : s.size ≤ 1073741824) :
    Calls Tryd.prog 43 #[.slice (some ⟨b, 0, none⟩) 1 1] w fun e w' => e = .returned (.string (bs (strKey s.data.toList))) ∧ Below w.heap.size w w' := by
  have hbl := cell_lt hc0
  obtain ⟨mx, hmx⟩ := hG.mx
  have h1l := cell_lt hmx
  have hec := escL_len s.data.toList
  rw [dlen] at hec
  have hcnt : Lib.count s.data.toList [0] ≤ s.size := by have := (esc_repl s.data.toList).2; rwa [dlen] at this
  go_enter Tryd.func43, Tryd.ntmps43
  go_wp2_with fail
  go_loopw [8] (fun i wr => (i = .int .i64 0 ∧ IsB w.heap.size w.heap.size [] wr ∨ i = .int .i64 1 ∧ IsB w.heap.size w.heap.size (strKey s.data.toList) wr) ∧ Below w.heap.size w wr) (fun i _ => (1 - intOf i).toNat)
  case atStart => exact ⟨.inl ⟨rfl, IsB.new w⟩, (Below.refl _ _).alloc (Nat.le_refl _) _⟩
  case round =>
    obtain ⟨⟨rfl, ho⟩ | ⟨rfl, ho⟩, hbr⟩ := hrel
    · have q0 := (hbr.cell (p := ⟨b, 0, none⟩) hbl).trans hc0
      have q1 := (hbr.cell (p := ⟨b, 1, none⟩) hbl).trans hc1
      have q2 := (hbr.cell (p := ⟨b, 2, none⟩) hbl).trans hc2
      have hmr := (hbr.cell (p := ⟨1, 0, none⟩) h1l).trans hmx
      have hzr := hbr.size
      have hob := ho.lt
      go_wp2_with fail
      have hm2 : (wr.alloc (.cells #[.bool true, .string s, .int .u64 0] 97)).cell? ⟨1, 0, none⟩ = some (.int .i64 mx) := by
        rw [World.cell?_alloc_lt wr _ ⟨1, 0, none⟩ (by show 1 < wr.heap.size; omega)]
        exact hmr
      refine (Tryd.strings_ReplaceAll s ⟨#[0]⟩ ⟨#[0, 255]⟩ mx _ (by omega) hm2 (by decide) (by show s.size + Lib.count s.data.toList [0] * 2 ≤ _; omega)).mono ?_
      rintro e w1 ⟨rfl, hb1⟩
      rw [repl_data]
      have hbw1 : Below w.heap.size w w1 := (hbr.alloc (by omega) _).trans (hb1.mono (by rw [World.size_alloc]; omega))
      have ho1 : IsB w.heap.size w.heap.size [] w1 := ho.below (((Below.refl _ _).alloc (Nat.le_refl _) _).trans (hb1.mono (by rw [World.size_alloc]; omega)))
      have hes := bs_size (escL s.data.toList)
      have k1 : 1 + (bs (escL s.data.toList)).size ≤ 9223372036854775807 := by omega
      have k2 : 1 + (bs (escL s.data.toList)).size + 2 ≤ 9223372036854775807 := by omega
      have hsz : (((⟨#[2]⟩ : ByteArray) ++ bs (escL s.data.toList)) ++ ⟨#[0, 1]⟩).size = 1 + (escL s.data.toList).length + 2 := by rw [ByteArray.size_append, ByteArray.size_append, hes]; rfl
      have hda : (((⟨#[2]⟩ : ByteArray) ++ bs (escL s.data.toList)) ++ ⟨#[0, 1]⟩).data.toList = strKey s.data.toList := by simp [strKey, bs]
      replace hda := Lib.hid hda
      go_wp2_with fail
      refine (write_any w.heap.size w.heap.size [] _ _ ho1 (by rw [hsz]; show 0 + _ ≤ _; omega) hbw1.size).mono ?_
      rintro e w2 ⟨rfl, ho2, hb2⟩
      rw [hda.out] at ho2
      go_wp2_with fail
      exact ⟨⟨.inr ⟨by rfl, ho2⟩, hbw1.trans hb2⟩, by decide⟩
    · go_wp2_with fail
      refine (Tryd.Builder_String_any w.heap.size w.heap.size _ _ ho hbr.size).mono ?_
      rintro e w1 ⟨rfl, hb1⟩
      go_wp2_with fail
      go_ret
      exact ⟨rfl, hbr.trans hb1⟩
theorem indexByte_cases : ∀ l : L, (Lib.indexByte l 0 = -1 ∧ ∀ c ∈ l, c ≠ 0) ∨ ∃ p r, l = p ++ 0 :: r ∧ (∀ c ∈ p, c ≠ 0) ∧ Lib.indexByte l 0 = (p.length : Nat)
  | [] => .inl ⟨rfl, fun c hc => by cases hc⟩
  | b :: l => by
    by_cases hb : b = 0
    · subst hb
      exact .inr ⟨[], l, rfl, (fun c hc => by cases hc), by simp [Lib.indexByte]⟩
    · have hbb : (b == 0) = false := by simpa using hb
      rcases indexByte_cases l with ⟨h1, h2⟩ | ⟨p, r, h1, h2, h3⟩
      · refine .inl ⟨by simp [Lib.indexByte, hbb, h1], fun c hc => ?_⟩
        rcases List.mem_cons.1 hc with rfl | hc
        · exact hb
        · exact h2 c hc
      · refine .inr ⟨b :: p, r, by rw [h1]; rfl, fun c hc => ?_, ?_⟩
        · rcases List.mem_cons.1 hc with rfl | hc
          · exact hb
          · exact h2 c hc
        · have : ¬ (((p.length : Nat) : Int) = -1) := by omega
          simp [Lib.indexByte, hbb, h3, this]
def rtV (o : Option (L × L)) : Value := match o with
  | none => .tuple #[.string ⟨#[]⟩, .string ⟨#[]⟩, .bool false]
  | some (t, r) => .tuple #[.string (bs t), .string (bs r), .bool true]
def strLen : Value → Nat
  | .string b => b.size
  | _ => 0
theorem bs_ext (l : L) (a b : Nat) : (bs l).extract a b = bs ((l.drop a).take (b - a)) := by rw [ext_bs, bs_data]
set_option maxRecDepth 100000 in
set_option maxHeartbeats 4000000 in
theorem readTextK_any (s : ByteArray) (w : World) (hs : s.size ≤ 1073741824) :
    Calls Tryd.prog 81 #[.string s] w fun e w' => e = .returned (rtV (rtK s.data.toList [])) ∧ Below w.heap.size w w' := by
  go_enter Tryd.func81, Tryd.ntmps81
  go_wp2_with fail
  go_loopw [0] (fun sv wr => ∃ cur acc, sv = .string (bs cur) ∧ IsB w.heap.size w.heap.size acc wr ∧ rtK s.data.toList [] = rtK cur acc ∧ acc.length + cur.length ≤ s.size ∧ Below w.heap.size w wr) (fun sv _ => strLen sv)
  case atStart => exact ⟨s.data.toList, [], by rw [bs_of], IsB.new w, rfl, by rw [dlen]; exact Nat.le_of_eq (Nat.zero_add _), (Below.refl _ _).alloc (Nat.le_refl _) _⟩
  case round =>
    obtain ⟨cur, acc, rfl, ho, hR, hle, hbr⟩ := hrel
    have hcs := Lib.hid (bs_size cur)
    have hix := Tryd.strings_IndexByte (bs cur) 0 wr
    rw [bs_data, show (0 : Int).toNat.toUInt8 = (0 : UInt8) from rfl] at hix
    have hob := ho.lt
    rcases indexByte_cases cur with ⟨h1, h2⟩ | ⟨p, r, h1, h2, h3⟩
    · rw [h1] at hix
      have hN := hR.trans (rtK_none cur acc h2)
      replace hix := Lib.hid hix
      replace hN := Lib.hid hN
      replace hR := Lib.hid hR
      go_wp2_with fail
      refine hix.out.mono ?_
      rintro e w1 ⟨rfl, rfl⟩
      go_wp2_with fail
      go_ret3
      exact ⟨by rw [hN.out]; rfl, hbr⟩
    · rw [h3] at hix
      have hcl : cur.length = p.length + 1 + r.length := by rw [h1]; simp; omega
      have hnn : ¬ ((p.length : Nat) : Int) < 0 := by omega
      rcases r with _ | ⟨m, r⟩
      · have hN : rtK s.data.toList [] = none := by rw [hR, h1]; exact rtK_last p acc h2
        have heq : ((p.length : Nat) : Int) + 1 = ((bs cur).size : Nat) := by rw [hcs.out, hcl]; simp
        replace hix := Lib.hid hix
        replace hN := Lib.hid hN
        replace hR := Lib.hid hR
        replace h1 := Lib.hid h1
        go_wp2_with fail
        refine hix.out.mono ?_
        rintro e w1 ⟨rfl, rfl⟩
        go_wp2_with fail
        go_ret3
        exact ⟨by rw [hN.out]; rfl, hbr⟩
      · have hne : ¬ ((p.length : Nat) : Int) + 1 = ((bs cur).size : Nat) := by rw [hcs.out, hcl]; simp; omega
        have hbz : p.length + 2 ≤ (bs cur).size := by rw [hcs.out, hcl]; simp; omega
        have e1 : (bs cur).extract 0 p.length = bs p := by rw [bs_ext, h1]; simp
        have e2 : (bs cur).extract (p.length + 1) (p.length + 2) = bs [m] := by rw [bs_ext, h1, show p.length + 2 - (p.length + 1) = 1 from by omega, ← List.drop_drop, List.drop_left]; simp
        have e3 : (bs cur).extract (p.length + 2) (bs cur).size = bs r := by
          rw [bs_ext, h1, ← List.drop_drop, List.drop_left, List.take_of_length_le (by rw [← h1, hcs.out, hcl]; simp; omega)]
          rfl
        have hw0 := write_any w.heap.size w.heap.size acc (bs p) wr ho (by rw [bs_size]; omega) hbr.size
        rw [bs_data] at hw0
        have hmm : ((bs [m]).toList == ((⟨#[0, 1]⟩ : ByteArray).extract 1 2).toList) = decide (m = 1) := by
          rw [bs_toList, show ((⟨#[0, 1]⟩ : ByteArray).extract 1 2).toList = [1] from by rw [ByteArray.toList_eq]; rfl]
          by_cases h : m = 1 <;> simp [h]
        have hm2 : ((bs [m]).toList == [255]) = decide (m = 255) := by
          rw [bs_toList]
          by_cases h : m = 255 <;> simp [h]
        have hrt : rtK s.data.toList [] = (if m = 1 then some (acc ++ p, r) else if m = 255 then rtK r (acc ++ p ++ [0]) else none) := by
          rw [hR, h1, rtK_skip p (m :: r) acc h2, rtK, if_pos rfl]
        replace hix := Lib.hid hix
        replace hw0 := Lib.hid hw0
        replace hrt := Lib.hid hrt
        replace hR := Lib.hid hR
        replace h1 := Lib.hid h1
        replace h3 := Lib.hid h3
        have hbc : (bs cur).size ≤ 1073741824 := by rw [hcs.out]; omega
        have hd1 : decide (((p.length : Nat) : Int) < 0) = false := by simp
        have hd2 : (((p.length : Nat) : Int) + 1 == (((bs cur).size : Nat) : Int)) = false := by simpa using hne
        by_cases hq : m = 1
        · have hd : decide (m = 1) = true := by simpa using hq
          rw [hd] at hmm
          have hrt1 := hrt.out
          rw [if_pos hq] at hrt1
          replace hrt1 := Lib.hid hrt1
          clear hm2 hd hq hrt
          go_wp2_with fail
          refine hix.out.mono ?_
          rintro e w1 ⟨rfl, rfl⟩
          go_wp2_with fail
          refine hw0.out.mono ?_
          rintro e w2 ⟨rfl, ho2, hb2⟩
          have hob2 := ho2.lt
          go_wp2_with fail
          refine (Tryd.Builder_String_any w.heap.size w.heap.size (acc ++ p) w2 ho2 (Nat.le_trans hbr.size hb2.size)).mono ?_
          rintro e w3 ⟨rfl, hb3⟩
          go_wp2_with fail
          go_ret3
          refine ⟨?_, (hbr.trans hb2).trans hb3⟩
          rw [hrt1.out]
          simp only [rtV, e3]
          rfl
        · have hd : decide (m = 1) = false := by simpa using hq
          rw [hd] at hmm
          by_cases hq2 : m = 255
          · have hd3 : decide (m = 255) = true := by simpa using hq2
            rw [hd3] at hm2
            have hrt1 := hrt.out
            rw [if_neg hq, if_pos hq2] at hrt1
            replace hrt1 := Lib.hid hrt1
            clear hd hq hq2 hd3 hrt
            go_wp2_with fail
            refine hix.out.mono ?_
            rintro e w1 ⟨rfl, rfl⟩
            go_wp2_with fail
            refine hw0.out.mono ?_
            rintro e w2 ⟨rfl, ho2, hb2⟩
            have hob2 := ho2.lt
            have hw1 := write_any w.heap.size w.heap.size (acc ++ p) ⟨#[0]⟩ w2 ho2 (by rw [List.length_append]; show _ + 1 ≤ _; omega) (Nat.le_trans hbr.size hb2.size)
            replace hw1 := Lib.hid hw1
            go_wp2_with fail
            refine hw1.out.mono ?_
            rintro e w3 ⟨rfl, ho3, hb3⟩
            go_wp2_with fail
            have hcl2 : cur.length = p.length + 2 + r.length := by rw [hcl]; simp; omega
            refine ⟨⟨r, acc ++ p ++ [0], rfl, ho3, hrt1.out, by simp; omega, (hbr.trans hb2).trans hb3⟩, ?_⟩
            simp only [strLen]
            rw [bs_size, hcs.out]
            omega
          · have hd3 : decide (m = 255) = false := by simpa using hq2
            rw [hd3] at hm2
            have hrt1 := hrt.out
            rw [if_neg hq, if_neg hq2] at hrt1
            replace hrt1 := Lib.hid hrt1
            clear hd hq hq2 hd3 hrt
            go_wp2_with fail
            refine hix.out.mono ?_
            rintro e w1 ⟨rfl, rfl⟩
            go_wp2_with fail
            refine hw0.out.mono ?_
            rintro e w2 ⟨rfl, ho2, hb2⟩
            have hob2 := ho2.lt
            go_wp2_with fail
            go_ret3
            exact ⟨by rw [hrt1.out]; rfl, hbr.trans hb2⟩
theorem run_append_str {w : World} {base : Nat} {v : Value} {l : List UInt8} (ty : TypeId) (s : ByteArray) (hown : OwnB w base v l) (hbytes : l.length + s.size ≤ 70368744177664) (hbase : base ≤ w.heap.size) :
    ∃ v' w', (Builtin.append_ #[34, 9] ty #[v, .string s]).run Tryd.prog w = .ok v' w' ∧ OwnB w' base v' (l ++ s.data.toList) ∧ w.grownBy w' v.ownBlock ∧ (∀ k, v'.ownBlock = some k → v.ownBlock = some k ∨ k = w.heap.size) := by
  obtain ⟨i0, hi0, hz0, hz1, hz2⟩ := info_parts u8_info
  obtain ⟨v', w', hrun, h1, h2, h3⟩ := Lib.run_append_own_string (P := Tryd.prog) w base 34 9 ty 5 i0 Tryd.underlying34 Tryd.underlying9 hi0 hz0 hz1 hz2 v l.length (l.map B8) hown s (by unfold maxLen; omega) (by omega) hbase
  have hsl : s.data.toList.length = s.size := rfl
  refine ⟨v', w', hrun, ?_, h2, ?_⟩
  · unfold OwnB
    rw [List.length_append, List.map_append, hsl]
    exact h1
  · rcases hown.2 with ⟨rfl, hn⟩ | ⟨g, cap, cur, rfl, hbg, hg, hnc, hcm, hcs, htake⟩
    · by_cases hm : s.size = 0
      · rw [h3.2 ⟨rfl, hm⟩]
        intro k hk
        cases hk
      · have hr := run_append_nil_string (P := Tryd.prog) w 34 9 ty 5 i0 (.int .u8 0) Tryd.underlying34 Tryd.underlying9 hi0 hz0 s (by omega) (by omega) (by rw [hz2]; omega)
        rw [hrun] at hr
        injection hr with hr _
        subst hr
        intro k hk
        injection hk with hk
        exact .inr hk.symm
    · by_cases hroom : l.length + s.size ≤ cap
      · have hr := Lib.run_append_room_string (P := Tryd.prog) w 34 9 ty 5 i0 Tryd.underlying34 Tryd.underlying9 hi0 hz1 g l.length cap cur hg s hroom (by omega)
        rw [hrun] at hr
        injection hr with hr _
        subst hr
        exact fun k hk => .inl hk
      · have hr := Lib.run_append_grow_string (P := Tryd.prog) w 34 9 ty 5 i0 (.int .u8 0) Tryd.underlying34 Tryd.underlying9 hi0 hz0 ⟨g, 0, none⟩ l.length cap (l.map B8) (by rw [hz1]; simp) (hown.cells (g := g) rfl) s (by omega) (by omega) (by rw [hz2]; exact growslice_fits (by omega) (by omega))
        rw [hrun] at hr
        injection hr with hr _
        subst hr
        intro k hk
        injection hk with hk
        exact .inr hk.symm
theorem wpList_append_str {w : World} {ops : Array Oper} {rest : List Oper} {o : Oper} {a : Act} {Q : Exit → Act → World → Prop} (hgd : o.guard = none) (sl x : Operand)
    (ho : o.op = .call { callee := .builtin .append, args := #[sl, x], argTypes := #[34, 9] })
    (base : Nat) (v : Value) (l : List UInt8) (hs : a.eval sl = v) (hown : OwnB w base v l) (s : ByteArray) (hx : a.eval x = .string s) (hbytes : l.length + s.size ≤ 70368744177664) (hbase : base ≤ w.heap.size)
    (h : ∀ v' w', OwnB w' base v' (l ++ s.data.toList) → w.grownBy w' v.ownBlock → (∀ k, v'.ownBlock = some k → v.ownBlock = some k ∨ k = w.heap.size) → wpList Tryd.prog ops Q rest (a.put o.dst v') w') : wpList Tryd.prog ops Q (o :: rest) a w := by
  refine wpList_plain hgd fun K hK => ?_
  obtain ⟨v', w', hr, h2, h3, h4⟩ := run_append_str o.type s hown hbytes hbase
  unfold Oper.wp execOp
  simp only [ho, resolve, invoke, builtin, Sem.run_bind, Sem.run_pure, Result.andThen_ok, List.map_toArray, List.map_cons, List.map_nil, hs, hx, hr]
  exact hK _ _ (h v' w' h2 h3 h4)
def OwnW (w : World) (B : Nat) (v : Value) (l : List Nat) : Prop := w.ownsRow B 24 1 v l.length (l.map fun n => Value.int .u64 (n : Nat))
structure BBAt (w : World) (B g t off : Nat) (cs : Array Value) (s : BB) (vb vs : Value) : Prop where
  hB : B ≤ g
  blk : Blk w g t cs
  e0 : cs[off]? = some vb
  e1 : cs[off + 1]? = some vs
  e2 : cs[off + 2]? = some (.int .i64 s.count)
  e3 : cs[off + 3]? = some (.string (bs s.last))
  ob : OwnB w B vb s.b
  os : OwnW w B vs s.starts
  tb : t ≠ 5
  tw : t ≠ 24
def setBB (cs : Array Value) (off : Nat) (vb vs : Value) (s : BB) : Array Value := (((cs.setIfInBounds off vb).setIfInBounds (off + 1) vs).setIfInBounds (off + 2) (.int .i64 s.count)).setIfInBounds (off + 3) (.string (bs s.last))
def BS (g : Nat) (vb vs : Value) : Nat → Prop := fun k => k = g ∨ vb.ownBlock = some k ∨ vs.ownBlock = some k
def Moved (w : World) (v v' : Value) : Prop := v'.ownBlock = v.ownBlock ∨ ∃ k, v'.ownBlock = some k ∧ w.heap.size ≤ k
theorem BBAt.gb {w : World} {B g t off : Nat} {cs : Array Value} {s : BB} {vb vs : Value} (h : BBAt w B g t off cs s vb vs) : vb.ownBlock ≠ some g := own_blk_ne h.ob h.blk (fun e => h.tb e.symm)
theorem BBAt.gs {w : World} {B g t off : Nat} {cs : Array Value} {s : BB} {vb vs : Value} (h : BBAt w B g t off cs s vb vs) : vs.ownBlock ≠ some g := own_blk_ne h.os h.blk (fun e => h.tw e.symm)
theorem own_types {w : World} {B B' e e' m m' n n' : Nat} {v v' : Value} {xs xs' : List Value} (h : w.ownsRow B e m v n xs) (h' : w.ownsRow B' e' m' v' n' xs') (hne : e ≠ e') : ∀ k, v.ownBlock = some k → v'.ownBlock ≠ some k := by
  intro k hk
  rcases h.2 with ⟨rfl, _⟩ | ⟨g, cap, cur, rfl, hg, hh, _⟩
  · simp [Value.ownBlock] at hk
  · simp only [Value.ownBlock, Option.some.injEq] at hk
    subst hk
    exact own_blk_ne h' (t := e) hh (fun e => hne e.symm)
theorem BBAt.nbs {w : World} {B g t off : Nat} {cs : Array Value} {s : BB} {vb vs : Value} (h : BBAt w B g t off cs s vb vs) : ∀ k, vb.ownBlock = some k → vs.ownBlock ≠ some k := own_types h.ob h.os (by decide)
theorem BBAt.below {w w' : World} {B g t off : Nat} {cs : Array Value} {s : BB} {vb vs : Value} (h : BBAt w B g t off cs s vb vs) (hb : Below w.heap.size w w') : BBAt w' B g t off cs s vb vs :=
  ⟨h.hB, h.blk.below hb h.blk.lt, h.e0, h.e1, h.e2, h.e3, own_block h.ob (fun k hk => hb.block k (own_lt h.ob k hk).2), own_block h.os (fun k hk => hb.block k (own_lt h.os k hk).2), h.tb, h.tw⟩
theorem BBAt.kept {w w' : World} {S : Nat → Prop} {B g t off : Nat} {cs : Array Value} {s : BB} {vb vs : Value} (h : BBAt w B g t off cs s vb vs) (hk : KeptBut w w' S) (h0 : ¬ S g) (h1 : ∀ k, vb.ownBlock = some k → ¬ S k) (h2 : ∀ k, vs.ownBlock = some k → ¬ S k) : BBAt w' B g t off cs s vb vs :=
  ⟨h.hB, h.blk.keptB hk h0, h.e0, h.e1, h.e2, h.e3, own_kept h.ob hk h1, own_kept h.os hk h2, h.tb, h.tw⟩
/-- The block turned elsewhere. -/
theorem BBAt.kept_blk {w w' : World} {S : Nat → Prop} {B g t off : Nat} {cs cs' : Array Value} {s : BB} {vb vs : Value} (h : BBAt w B g t off cs s vb vs) (hk : KeptBut w w' S) (hb : Blk w' g t cs') (hcs : ∀ i, i < 4 → cs'[off + i]? = cs[off + i]?) (h1 : ∀ k, vb.ownBlock = some k → ¬ S k) (h2 : ∀ k, vs.ownBlock = some k → ¬ S k) : BBAt w' B g t off cs' s vb vs :=
  ⟨h.hB, hb, (hcs 0 (by omega)).trans h.e0, (hcs 1 (by omega)).trans h.e1, (hcs 2 (by omega)).trans h.e2, (hcs 3 (by omega)).trans h.e3, own_kept h.ob hk h1, own_kept h.os hk h2, h.tb, h.tw⟩
theorem Moved.trans {w w' : World} {v v' v'' : Value} (h : Moved w v v') (h' : Moved w' v' v'') (hz : w.heap.size ≤ w'.heap.size) : Moved w v v'' := by
  rcases h' with e | ⟨k, e, hk⟩
  · rcases h with e1 | ⟨k, e1, hk⟩
    · exact .inl (e.trans e1)
    · exact .inr ⟨k, e.trans e1, hk⟩
  · exact .inr ⟨k, e, Nat.le_trans hz hk⟩
theorem Moved.refl (w : World) (v : Value) : Moved w v v := .inl rfl
theorem u8_beq (a b : UInt8) : (((a.toNat : Nat) : Int) == ((b.toNat : Nat) : Int)) = decide (a = b) := by
  by_cases h : a = b
  · subst h; simp
  · have : ¬ ((a.toNat : Nat) : Int) = ((b.toNat : Nat) : Int) := fun h' => h (UInt8.toNat_inj.1 (by omega))
    simp [this, h]
set_option maxRecDepth 100000 in
set_option maxHeartbeats 4000000 in
theorem shared_any (a b : ByteArray) (w : World) (ha : a.size ≤ 1099511627776) :
    Calls Tryd.prog 54 #[.string a, .string b] w fun e w' => e = .returned (.int .i64 (sharedL a.data.toList b.data.toList : Nat)) ∧ Below w.heap.size w w' := by
  go_enter Tryd.func54, Tryd.ntmps54
  go_wp2_with fail
  go_loopw [5] (fun i wr => ∃ k : Nat, i = .int .i64 k ∧ k ≤ a.size ∧ k ≤ b.size ∧ sharedL a.data.toList b.data.toList = k + sharedL (a.data.toList.drop k) (b.data.toList.drop k) ∧ Below w.heap.size w wr) (fun i _ => a.size - (intOf i).toNat)
  case atStart => exact ⟨0, rfl, Nat.zero_le _, Nat.zero_le _, by simp, Below.refl _ _⟩
  case round =>
    obtain ⟨k, rfl, hka, hkb, hs, hbr⟩ := hrel
    replace hs := Lib.hid hs
    replace hbr := Lib.hid hbr
    by_cases h1 : k < a.size
    · have h1' : (k : Int) < a.size := by omega
      have la : k < a.data.toList.length := by rw [Lib.size_eq] at h1; exact h1
      by_cases h2 : k < b.size
      · have h2' : (k : Int) < b.size := by omega
        have lb : k < b.data.toList.length := by rw [Lib.size_eq] at h2; exact h2
        have ka : k < a.data.size := h1
        have kb : k < b.data.size := h2
        have ga : a[k] = a.data[k] := rfl
        have gb : b[k] = b.data[k] := rfl
        have hsk : sharedL (a.data.toList.drop k) (b.data.toList.drop k) = if a.data[k] = b.data[k] then sharedL (a.data.toList.drop (k + 1)) (b.data.toList.drop (k + 1)) + 1 else 0 := by
          rw [List.drop_eq_getElem_cons la, List.drop_eq_getElem_cons lb]
          rfl
        replace hsk := Lib.hid hsk
        have hcc := u8_beq a.data[k] b.data[k]
        by_cases he : a.data[k] = b.data[k]
        · generalize a.data[k] = ca at *
          generalize b.data[k] = cb at *
          subst he
          go_wp2_with fail
          go_region
          go_wp2_with fail
          refine ⟨⟨k + 1, by rfl, by omega, by omega, ?_, hbr.out.drew⟩, by first | omega | (simp only [intOf]; omega)⟩
          rw [hs.out, hsk.out]
          simp
          omega
        · generalize a.data[k] = ca at *
          generalize b.data[k] = cb at *
          have he2 : ¬ ((ca.toNat : Nat) : Int) = ((cb.toNat : Nat) : Int) := fun h => he (UInt8.toNat_inj.1 (by omega))
          go_wp2_with fail
          go_region
          go_wp2_with fail
          go_ret
          refine ⟨?_, hbr.out.drew⟩
          rw [hs.out, hsk.out, if_neg he]
          rfl
      · obtain rfl : k = b.size := by omega
        have h2' : ¬ (b.size : Int) < b.size := by omega
        go_wp2_with fail
        go_region
        go_wp2_with fail
        go_ret
        refine ⟨?_, hbr.out.drew⟩
        rw [hs.out, show b.data.toList.drop b.size = [] from List.drop_of_length_le (by rw [Lib.size_eq]; exact Nat.le_refl _)]
        cases (a.data.toList.drop b.size) <;> rfl
    · obtain rfl : k = a.size := by omega
      have h1' : ¬ (a.size : Int) < a.size := by omega
      go_wp2_with fail
      go_region
      go_wp2_with fail
      go_ret
      refine ⟨?_, hbr.out.drew⟩
      rw [hs.out, show a.data.toList.drop a.size = [] from List.drop_of_length_le (by rw [Lib.size_eq]; exact Nat.le_refl _)]
      rfl
theorem add_off (g off i : Nat) : (⟨g, off, none⟩ : Addr).add i = ⟨g, off + i, none⟩ := by cases i <;> simp [Addr.add]
set_option maxRecDepth 100000 in
set_option maxHeartbeats 4000000 in
theorem BAdd_err {w : World} {B g t off : Nat} {cs : Array Value} {s : BB} {vb vs : Value} (h : BBAt w B g t off cs s vb vs) (k v : ByteArray) (he : s.err k.data.toList v.data.toList ≠ 0) :
    Calls Tryd.prog 32 #[.pointer (some ⟨g, off, none⟩), .string k, .string v] w fun e w' => e = .returned (.int .i64 (s.err k.data.toList v.data.toList : Nat)) ∧ Below w.heap.size w w' := by
  have c2 := (h.blk.cell (off + 2)).trans h.e2
  have c3 := (h.blk.cell (off + 3)).trans h.e3
  have hlt := h.blk.lt
  have hlk : k.data.toList.length = k.size := (Lib.size_eq k).symm
  have hlv : v.data.toList.length = v.size := (Lib.size_eq v).symm
  have hle : (Op.bytesLess k.toList (bs s.last).toList || k.toList == (bs s.last).toList) = !(lessL s.last k.data.toList) := by
    rw [bs_toList, ByteArray.toList_eq]
    exact less_tri _ _
  by_cases hlong : 1024 < k.size ∨ 1024 < v.size
  · have hE : s.err k.data.toList v.data.toList = 3 := by unfold BB.err; rw [hlk, hlv, if_pos hlong]
    rw [hE]
    clear hE he hle
    go_enter Tryd.func32, Tryd.ntmps32
    by_cases h1 : 1024 < k.size
    · have h1' : (1024 : Int) < k.size := by omega
      go_wp2_with fail
      go_ret
      exact ⟨rfl, Below.refl _ _⟩
    · have h1' : ¬ (1024 : Int) < k.size := by omega
      have h2' : (1024 : Int) < v.size := by omega
      go_wp2_with fail
      go_ret
      exact ⟨rfl, Below.refl _ _⟩
  · have h1' : ¬ (1024 : Int) < k.size := by omega
    have h2' : ¬ (1024 : Int) < v.size := by omega
    have hE : s.err k.data.toList v.data.toList = 1 ∧ 0 < s.count ∧ lessL s.last k.data.toList = false := by
      unfold BB.err at he ⊢
      rw [hlk, hlv, if_neg hlong] at he ⊢
      split at he
      · rename_i hh
        exact ⟨by rw [if_pos hh], hh⟩
      · exact absurd rfl he
    obtain ⟨hE, hc, hl⟩ := hE
    rw [hl] at hle
    have hc' : (0 : Int) < s.count := by omega
    rw [hE]
    clear hE he hl hlong
    replace hlk := Lib.hid hlk
    replace hlv := Lib.hid hlv
    go_enter Tryd.func32, Tryd.ntmps32
    go_wp2_with fail
    go_ret
    exact ⟨rfl, Below.refl _ _⟩
/-- The rows of numbers. -/
theorem u64_info : (Tryd.prog.info? 24).map (fun i => (i.zero, i.size, i.bytes)) = some (some (.int .u64 0), 1, 8) := by kernel_rfl
def ptCells (ps : List Pt) : List Value := ps.flatMap fun p => [.bool p.text, .string (bs p.s), .int .u64 (p.n : Nat)]
theorem ptCells_snoc (ps : List Pt) (p : Pt) : ptCells (ps ++ [p]) = ptCells ps ++ [.bool p.text, .string (bs p.s), .int .u64 (p.n : Nat)] := by simp [ptCells]
def OwnPt (w : World) (B : Nat) (v : Value) (ps : List Pt) : Prop := w.ownsRow B 97 3 v ps.length (ptCells ps)
theorem OwnPt.form {w : World} {B : Nat} {v : Value} {l : List Pt} (h : OwnPt w B v l) : ∃ A cap, v = .slice A l.length cap := by
  rcases h.2 with ⟨rfl, e⟩ | ⟨g, cap, cur, rfl, _⟩
  · exact ⟨none, 0, by rw [e]⟩
  · exact ⟨_, cap, rfl⟩
theorem OwnPt.below {w w' : World} {B : Nat} {v : Value} {l : List Pt} (h : OwnPt w B v l) (hb : Below w.heap.size w w') : OwnPt w' B v l := own_block h (fun k hk => hb.block k (own_lt h k hk).2)
theorem OwnPt.of_law {w : World} {B n : Nat} {v : Value} {l : List Pt} {p : Pt} (h : w.ownsRow B 97 3 v n (ptCells l ++ [.bool p.text, .string (bs p.s), .int .u64 (p.n : Nat)])) (hn : n = l.length + 1) : OwnPt w B v (l ++ [p]) := by
  subst hn
  unfold OwnPt
  rw [ptCells_snoc, List.length_append]
  exact h
theorem part_info : (Tryd.prog.info? 97).map (fun i => (i.zero, i.size, i.bytes)) = some (some (.agg #[.bool false, .string ⟨#[]⟩, .int .u64 0]), 3, 32) := by kernel_rfl
theorem reads3p (w : World) (t : TypeId) (a b c : Value) : Reads (w.alloc (.cells #[a, b, c] t)) (w.heap.size + 1) 3 (some ⟨w.heap.size, 0, none⟩) 1 [a, b, c] := by
  refine ⟨rfl, fun _ => ⟨_, rfl, by simp, fun j u hu => ?_⟩⟩
  rw [add_off, Nat.zero_add, (Blk.new w t #[a, b, c]).cell j]
  simpa using hu
theorem cut_any (c : UInt8) (r : L) (x : UInt8) (w : World) : Calls Tryd.prog 79 #[.string (bs (c :: r)), .string ⟨#[x]⟩] w fun e w' => e = .returned (.tuple #[.string (bs (if c = x then r else c :: r)), .bool (decide (c = x))]) ∧ w' = w := by
  have h := Tryd.strings_CutPrefix (bs (c :: r)) ⟨#[x]⟩ w
  have e1 : Lib.hasPrefix (c :: r) [x] = decide (c = x) := by
    unfold Lib.hasPrefix
    by_cases hc : c = x
    · subst hc; simp [List.isPrefixOf]
    · have : ¬ x = c := fun e => hc e.symm
      simp [List.isPrefixOf, hc, this]
  have e2 : Lib.trimPrefix (c :: r) [x] = if c = x then r else c :: r := by
    unfold Lib.trimPrefix
    rw [e1]
    by_cases hc : c = x <;> simp [hc]
  rw [bs_data, show (⟨#[x]⟩ : ByteArray).data.toList = [x] from rfl, e1, e2] at h
  exact h
def PartsIs (B : Nat) (o : Option (List Pt)) (e : Ending) (w' : World) : Prop := match o with
  | none => e = .returned (.tuple #[.slice none 0 0, .bool false])
  | some ps => ∃ v, e = .returned (.tuple #[v, .bool true]) ∧ OwnPt w' B v ps
theorem PartsIs.none_ {B : Nat} {o : Option (List Pt)} {w' : World} (h : o = none) : PartsIs B o (.returned (.tuple #[.slice none 0 0, .bool false])) w' := by subst h; rfl
theorem PartsIs.some_ {B : Nat} {o : Option (List Pt)} {w' : World} {ps : List Pt} {v : Value} (h : o = some ps) (hv : OwnPt w' B v ps) : PartsIs B o (.returned (.tuple #[v, .bool true])) w' := by subst h; exact ⟨v, rfl, hv⟩
theorem ReadVar_bs (l : L) (w : World) (hs : l.length ≤ 1073741824) : (readVar l = none → Calls Tryd.prog 63 #[.string (bs l)] w fun e w' => e = .returned (.tuple #[.int .u64 0, .int .i64 0, .bool false]) ∧ Below w.heap.size w w') ∧
    (∀ n k, readVar l = some (n, k) → Calls Tryd.prog 63 #[.string (bs l)] w fun e w' => e = .returned (.tuple #[.int .u64 n, .int .i64 k, .bool true]) ∧ Below w.heap.size w w') :=
  ⟨fun h => ReadVar_none (bs l) w (by rw [bs_size]; unfold maxLen; omega) (by rw [bs_data]; exact h), fun n k h => ReadVar_some (bs l) n k w (by rw [bs_size]; unfold maxLen; omega) (by rw [bs_data]; exact h)⟩
set_option maxRecDepth 100000 in
set_option maxHeartbeats 4000000 in
theorem Parts_any (s : ByteArray) (w : World) (hs : s.size ≤ 1048576) :
    Calls Tryd.prog 61 #[.string s] w fun e w' => PartsIs w.heap.size (partsP s.data.toList) e w' ∧ Below w.heap.size w w' := by
  obtain ⟨i0, hi0, hz0, hz1, hz2⟩ := info_parts part_info
  go_enter Tryd.func61, Tryd.ntmps61
  go_wp2_with fail
  go_loopw [0, 4] (fun sv ov wr => ∃ cur ps f, sv = .string (bs cur) ∧ OwnPt wr w.heap.size ov ps ∧ cur.length ≤ f ∧ partsP s.data.toList = partsF f cur ps ∧ ps.length + cur.length ≤ s.size ∧ Below w.heap.size w wr) (fun sv _ _ => strLen sv)
  case atStart => exact ⟨s.data.toList, [], s.data.toList.length, by rw [bs_of], World.ownsRow_nil _ _ _ 3, Nat.le_refl _, rfl, by rw [dlen]; exact Nat.le_of_eq (Nat.zero_add _), Below.refl _ _⟩
  case round =>
    obtain ⟨cur, ps, f, rfl, ho, hcf, hR, hle, hbr⟩ := hrel
    obtain ⟨Ap, cp, rfl⟩ := ho.form
    have hzr := hbr.size
    rcases cur with _ | ⟨c, r⟩
    · have hfin : partsP s.data.toList = some ps := hR.trans (by cases f <;> rfl)
      have he : ((bs ([] : L)).toList == ([] : L)) = true := by rw [bs_toList]; rfl
      have he2 : (bs ([] : L)).toList = [] := by rw [bs_toList]
      replace hfin := Lib.hid hfin
      replace hR := Lib.hid hR
      go_wp2_with fail
      go_ret2
      exact ⟨PartsIs.some_ hfin.out ho, hbr⟩
    · obtain ⟨f, rfl⟩ : ∃ f', f = f' + 1 := ⟨f - 1, by simp at hcf; omega⟩
      have hne : (bs (c :: r)).toList ≠ [] := by rw [bs_toList]; simp
      have hie : ((bs (c :: r)).toList == ([] : L)) = false := by rw [bs_toList]; rfl
      have hcut1 := cut_any c r 1
      have hcut2 := cut_any c r 2
      simp only [List.length_cons] at hle hcf
      have hrl : r.length ≤ 1073741824 := by omega
      replace hR := Lib.hid hR
      by_cases h1 : c = 1
      · simp only [h1, if_true, decide_true] at hcut1
        subst h1
        replace hcut1 := Lib.hid hcut1
        clear hcut2
        cases hv : readVar r with
        | none =>
          have hN : partsP s.data.toList = none := by rw [hR.out, partsF, if_pos rfl, hv]
          have hrv := Lib.hid ((ReadVar_bs r wr hrl).1 hv)
          replace hv := Lib.hid hv
          replace hN := Lib.hid hN
          go_wp2_with fail
          refine (hcut1.out wr).mono ?_
          rintro e w1 ⟨rfl, rfl⟩
          go_wp2_with fail
          refine hrv.out.mono ?_
          rintro e w2 ⟨rfl, hb2⟩
          go_wp2_with fail
          go_ret2
          exact ⟨PartsIs.none_ hN.out, hbr.trans (hb2.mono hzr)⟩
        | some q =>
          obtain ⟨n, z⟩ := q
          obtain ⟨z1, z2, hn⟩ := readVar_le hv
          have hN : partsP s.data.toList = partsF f (r.drop z) (ps ++ [⟨false, [], n⟩]) := by rw [hR.out, partsF, if_pos rfl, hv]
          have hrv := Lib.hid ((ReadVar_bs r wr hrl).2 n z hv)
          have hrs : (bs r).size = r.length := bs_size r
          have hex : (bs r).extract z (bs r).size = bs (r.drop z) := by rw [bs_ext, List.take_of_length_le (by simp; omega)]
          have hnum := Lib.hid (show ∀ w, Calls Tryd.prog 80 #[.int .u64 (n : Nat)] w (fun e w' => e = .returned (.agg #[.bool false, .string ⟨#[]⟩, .int .u64 (n : Nat)]) ∧ Below w.heap.size w w') from fun w => Num_any n w hn)
          replace hv := Lib.hid hv
          replace hN := Lib.hid hN
          replace hrs := Lib.hid hrs
          have hzs : (z : Int) ≤ ((bs r).size : Nat) := by rw [hrs.out]; omega
          go_wp2_with fail
          refine (hcut1.out wr).mono ?_
          rintro e w1 ⟨rfl, rfl⟩
          go_wp2_with fail
          refine hrv.out.mono ?_
          rintro e w2 ⟨rfl, hb2⟩
          have ho2 := ho.below hb2
          go_wp2_with fail
          have hxc := @Ext.cell
          have hxf := @Ext.frozen
          refine wp_hide (fun Q0 hQ0 => ?_)
          refine wp_region_line (fun w' => ∃ x : Ext _, w' = x.w) [some false, some false, some false, none, none, some true, some true, some true, none, none] 1 (by kernel_rfl) (by kernel_rfl) ⟨⟨_, (Below.refl _ _).drew⟩, rfl⟩ ?_
          simp only [earlyL, tailL]
          repeat (first | ((with_reducible refine wpMix_p ?_); go_big_quiet_step (fail); refine wpQuiet_nil ?_) | ((with_reducible refine wpMix_e ?_); go_big_quiet_step ((first | (go_at_call 80; exact Calls.ext (hnum.out _)))); refine wpQuiet_nil ?_))
          refine wpMix_nil ?_
          clear hxc hxf
          intro wx hwx
          obtain ⟨x, hx⟩ := hwx
          have hb := x.below
          rw [← hx] at hb
          clear hx x
          have hbs := hb.size
          have ho3 := ho2.below hb
          have hownx := World.ownsRow.alloc ho3 (.cells #[.bool false, .string ⟨#[]⟩, .int .u64 (n : Nat)] 97)
          have hrd := reads3p wx 97 (.bool false) (.string ⟨#[]⟩) (.int .u64 (n : Nat))
          have hone : ∀ u ∈ [Value.bool false, .string ⟨#[]⟩, .int .u64 (n : Nat)], u.oneCell' = true := by
            intro u hu
            simp at hu
            rcases hu with rfl | rfl | rfl <;> rfl
          have hBx : w.heap.size ≤ (wx.alloc (.cells #[.bool false, .string ⟨#[]⟩, .int .u64 (n : Nat)] 97)).heap.size := by rw [World.size_alloc]; have := hb2.size; omega
          have hbw2 := hbr.trans (hb2.mono hzr)
          have hbwx := hbw2.trans (hb.mono hbw2.size)
          replace hone := Lib.hid hone
          replace hbwx := Lib.hid hbwx
          clear ho ho2 ho3
          refine wpTail_step ?_
          intro Q1 hQ1
          go_wp2_with fail
          refine hQ1 _ _ rfl (fun _ => ⟨⟨_, hb.alloc hbs _⟩, rfl⟩) ?_
          clear hQ1 Q1
          refine wpTail_step ?_
          intro Q1 hQ1
          go_wp2_with (at_builtin; refine wpList_append_any _ rfl (.tmp 29) (.tmp 32) 123 rfl w.heap.size 97 i0 (.agg #[.bool false, .string ⟨#[]⟩, .int .u64 0]) 3 32 Tryd.underlying123 hi0 hz0 hz1 hz2 rfl (by omega) (.slice Ap ps.length cp) ps.length (ptCells ps) rfl hownx (wx.heap.size + 1) (some ⟨wx.heap.size, 0, none⟩) 1 1 [.bool false, .string ⟨#[]⟩, .int .u64 (n : Nat)] rfl hrd hone.out (by unfold maxLen; omega) (by omega) hBx ?_; intro v4 w4 hown4 hgr4 hat4)
          refine hQ1 _ _ rfl (fun h => absurd h (by decide)) ?_
          clear hQ1 Q1
          have ho4 := OwnPt.of_law (p := ⟨false, [], n⟩) hown4 rfl
          have hb4 := (hbwx.out.alloc (by have := hb2.size; omega) (.cells #[.bool false, .string ⟨#[]⟩, .int .u64 (n : Nat)] 97)).grown hgr4 hBx (fun k hk => (own_lt hownx k hk).1)
          replace ho4 := Lib.hid ho4
          replace hb4 := Lib.hid hb4
          clear hown4 hgr4 hat4 hownx hrd
          refine wpTail_step ?_
          intro Q1 hQ1
          go_wp2_with (fail)
          refine hQ1 _ _ rfl (fun h => absurd h (by decide)) ?_
          clear hQ1 Q1
          refine wpTail_step ?_
          intro Q1 hQ1
          go_wp2_with (fail)
          refine hQ1 _ _ rfl (fun h => absurd h (by decide)) ?_
          clear hQ1 Q1
          refine wpTail_nil ?_
          refine hQ0 _ _ ?_
          clear hQ0 Q0
          go_wp2_with fail
          refine ⟨⟨r.drop z, ps ++ [⟨false, [], n⟩], f, rfl, ho4.out, by simp; omega, hN.out, by simp; omega, hb4.out⟩, ?_⟩
          simp only [strLen]
          rw [bs_size, bs_size]
          simp
          omega
      · simp only [h1, if_false, decide_false] at hcut1
        by_cases h2 : c = 2
        · simp only [h2, if_true, decide_true] at hcut2
          rw [h2] at hcut1
          have hrt := fun w => readTextK_any (bs r) w (by rw [bs_size]; omega)
          rw [bs_data] at hrt
          subst h2
          replace hcut1 := Lib.hid hcut1
          replace hcut2 := Lib.hid hcut2
          cases hv : rtK r [] with
          | none =>
            have hN : partsP s.data.toList = none := by rw [hR.out, partsF, if_neg h1, if_pos rfl, hv]
            rw [hv] at hrt
            unfold rtV at hrt
            simp only [] at hrt
            replace hrt := Lib.hid hrt
            replace hv := Lib.hid hv
            replace hN := Lib.hid hN
            go_wp2_with fail
            refine (hcut1.out wr).mono ?_
            rintro e w1 ⟨rfl, rfl⟩
            go_wp2_with fail
            refine (hcut2.out w1).mono ?_
            rintro e w2 ⟨rfl, rfl⟩
            go_wp2_with fail
            refine (hrt.out w2).mono ?_
            rintro e w3 ⟨rfl, hb3⟩
            go_wp2_with fail
            go_ret2
            exact ⟨PartsIs.none_ hN.out, hbr.trans (hb3.mono hzr)⟩
          | some q =>
            obtain ⟨tx, rest⟩ := q
            have hN : partsP s.data.toList = partsF f rest (ps ++ [⟨true, tx, 0⟩]) := by rw [hR.out, partsF, if_neg h1, if_pos rfl, hv]
            have hlen := rtK_len r [] tx rest hv
            rw [hv] at hrt
            unfold rtV at hrt
            simp only [] at hrt
            have hstr := Lib.hid (show ∀ w, Calls Tryd.prog 44 #[.string (bs tx)] w (fun e w' => e = .returned (.agg #[.bool true, .string (bs tx), .int .u64 0]) ∧ Below w.heap.size w w') from fun w => Str_any (bs tx) w)
            replace hrt := Lib.hid hrt
            replace hv := Lib.hid hv
            replace hN := Lib.hid hN
            go_wp2_with fail
            refine (hcut1.out wr).mono ?_
            rintro e w1 ⟨rfl, rfl⟩
            go_wp2_with fail
            refine (hcut2.out w1).mono ?_
            rintro e w2 ⟨rfl, rfl⟩
            go_wp2_with fail
            refine (hrt.out w2).mono ?_
            rintro e w3 ⟨rfl, hb3⟩
            have ho3 := ho.below hb3
            go_wp2_with fail
            refine (hstr.out w3).mono ?_
            rintro e wx ⟨rfl, hb⟩
            have ho5 := ho3.below hb
            have hownx := World.ownsRow.alloc ho5 (.cells #[.bool true, .string (bs tx), .int .u64 0] 97)
            have hrd := reads3p wx 97 (.bool true) (.string (bs tx)) (.int .u64 0)
            have hone : ∀ u ∈ [Value.bool true, .string (bs tx), .int .u64 0], u.oneCell' = true := by
              intro u hu
              simp at hu
              rcases hu with rfl | rfl | rfl <;> rfl
            have hbs3 := hb3.size
            have hbs := hb.size
            have hBx : w.heap.size ≤ (wx.alloc (.cells #[.bool true, .string (bs tx), .int .u64 0] 97)).heap.size := by rw [World.size_alloc]; omega
            have hbw3 := hbr.trans (hb3.mono hzr)
            have hbwx := hbw3.trans (hb.mono hbw3.size)
            replace hone := Lib.hid hone
            replace hbwx := Lib.hid hbwx
            clear ho ho3 ho5
            go_wp2_with (at_builtin; refine wpList_append_any _ rfl (.tmp 52) (.tmp 55) 123 rfl w.heap.size 97 i0 (.agg #[.bool false, .string ⟨#[]⟩, .int .u64 0]) 3 32 Tryd.underlying123 hi0 hz0 hz1 hz2 rfl (by omega) (.slice Ap ps.length cp) ps.length (ptCells ps) rfl hownx (wx.heap.size + 1) (some ⟨wx.heap.size, 0, none⟩) 1 1 [.bool true, .string (bs tx), .int .u64 0] rfl hrd hone.out (by unfold maxLen; omega) (by omega) hBx ?_; intro v4 w4 hown4 hgr4 hat4)
            have ho4 := OwnPt.of_law (p := ⟨true, tx, 0⟩) hown4 rfl
            have hb4 := (hbwx.out.alloc (by omega) (.cells #[.bool true, .string (bs tx), .int .u64 0] 97)).grown hgr4 hBx (fun k hk => (own_lt hownx k hk).1)
            refine ⟨⟨rest, ps ++ [⟨true, tx, 0⟩], f, rfl, ho4, by omega, hN.out, by simp; omega, hb4⟩, ?_⟩
            simp only [strLen]
            rw [bs_size, bs_size]
            simp
            omega
        · simp only [h2, if_false, decide_false] at hcut2
          have hN : partsP s.data.toList = none := by rw [hR.out, partsF, if_neg h1, if_neg h2]
          replace hcut1 := Lib.hid hcut1
          replace hcut2 := Lib.hid hcut2
          replace hN := Lib.hid hN
          go_wp2_with fail
          refine (hcut1.out wr).mono ?_
          rintro e w1 ⟨rfl, rfl⟩
          go_wp2_with fail
          refine (hcut2.out w1).mono ?_
          rintro e w2 ⟨rfl, rfl⟩
          go_wp2_with fail
          go_ret2
          exact ⟨PartsIs.none_ hN.out, hbr⟩
end Go.Proofs.YtfnlponoakhegaaDoor
