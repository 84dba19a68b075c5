/- Contracts of package batch: Encode. Contracts of package batch: one. Contracts of package batch: Decode. Contracts of package wal: Logs. Contracts of package wal: what Replay does with a log. Contracts of package wal: the closures of Replay. -/
import Derived.Test.YtdbpfemkjfogoaaGreatDoorM13
import Derived.Test.YtdbpfemkjfogoaaGreatDoorM07
import Derived.Test.YtdbpfemkjfogoaaGreatDoorM12
import Derived.Test.YtdbpfemkjfogoaaGreatDoorM00
import Derived.Test.YtdbpfemkjfogoaaGreatDoorW0J
import Derived.Test.YtdbpfemkjfogoaaGreatDoorSrtUJ
import Derived.Test.YtdbpfemkjfogoaaGreatDoorM11
import Derived.Laws.EntriesVeiled
namespace Go.Proofs.YtdbpfemkjfogoaaGreatDoor
open Go.RowKit
set_option linter.unusedVariables false
set_option linter.unusedSimpArgs false
theorem reads_two (w : World) (b : Nat) (x y : Value) (hb : b < w.heap.size) (h0 : w.cell? ⟨b, 0, none⟩ = some x) (h1 : w.cell? ⟨b, 1, none⟩ = some y) : Reads w w.heap.size 1 (some ⟨b, 0, none⟩) 2 [x, y] :=
  ⟨rfl, fun _ => ⟨_, rfl, hb, fun j u hu => by
    rcases j with _ | _ | j
    · simp at hu; subst hu; exact h0
    · simp at hu; subst hu; exact h1
    · simp at hu⟩⟩
theorem reads_one (w : World) (b : Nat) (x : Value) (hb : b < w.heap.size) (h0 : w.cell? ⟨b, 0, none⟩ = some x) : Reads w w.heap.size 1 (some ⟨b, 0, none⟩) 1 [x] :=
  ⟨rfl, fun _ => ⟨_, rfl, hb, fun j u hu => by
    rcases j with _ | j
    · simp at hu; subst hu; exact h0
    · simp at hu⟩⟩
theorem Var_two (b n m : Nat) (w : World) (hb : b < w.heap.size) (h0 : w.cell? ⟨b, 0, none⟩ = some (.int .u64 (n : Nat))) (h1 : w.cell? ⟨b, 1, none⟩ = some (.int .u64 (m : Nat))) (hn : n < 18446744073709551616) (hm : m < 18446744073709551616) :
    Calls Tryz.prog 101 #[.slice (some ⟨b, 0, none⟩) 2 2] w fun e w' => e = .returned (.string (bs (varL [n, m]))) ∧ Below w.heap.size w w' := by
  have h := Var_any (some ⟨b, 0, none⟩) [(n : Int), (m : Int)] 2 w (reads_two w b _ _ hb h0 h1) (fun x hx => by
    simp at hx
    rcases hx with rfl | rfl
    · exact ⟨by omega, by omega⟩
    · exact ⟨by omega, by omega⟩) (by simp)
  simpa [bs] using h
theorem Text_one (b : Nat) (x : ByteArray) (w : World) (hb : b < w.heap.size) (h0 : w.cell? ⟨b, 0, none⟩ = some (.string x)) (hx : x.size ≤ 1073741824) :
    Calls Tryz.prog 102 #[.slice (some ⟨b, 0, none⟩) 1 1] w fun e w' => e = .returned (.string (bs (textL [x.data.toList]))) ∧ Below w.heap.size w w' := by
  have h := Text_any (some ⟨b, 0, none⟩) [x] 1 w (reads_one w b _ hb h0) (by simp) (by have := varL1_len x.data.toList.length; simp only [List.map_cons, List.map_nil, textL, List.length_append, List.append_nil, dlen] at *; omega)
  simpa using h
theorem Text_two (b : Nat) (x y : ByteArray) (w : World) (hb : b < w.heap.size) (h0 : w.cell? ⟨b, 0, none⟩ = some (.string x)) (h1 : w.cell? ⟨b, 1, none⟩ = some (.string y)) (hx : x.size ≤ 1073741824) (hy : y.size ≤ 1073741824) :
    Calls Tryz.prog 102 #[.slice (some ⟨b, 0, none⟩) 2 2] w fun e w' => e = .returned (.string (bs (textL [x.data.toList, y.data.toList]))) ∧ Below w.heap.size w w' := by
  have h := Text_any (some ⟨b, 0, none⟩) [x, y] 2 w (reads_two w b _ _ hb h0 h1) (by simp) (by have := varL1_len x.data.toList.length; have := varL1_len y.data.toList.length; simp only [List.map_cons, List.map_nil, textL, List.length_append, List.append_nil, dlen] at *; omega)
  simpa using h
set_option maxRecDepth 100000 in
set_option maxHeartbeats 2000000 in
theorem Enc_bad (seq : Nat) (A : Option Addr) (cap : Nat) (b : List OpE) (w : World) (hs : seq < 18446744073709551616) (hr : OpsR w w.heap.size A b) (hl : b.length ≤ 1073741824) (hc : chkB ⟨seq, b⟩ ≠ 0) :
    Calls Tryz.prog 56 #[.agg #[.int .u64 (seq : Nat), .slice A b.length cap]] w fun e w' => e = .returned (.tuple #[.string ⟨#[]⟩, .int .i64 (chkB ⟨seq, b⟩ : Nat)]) ∧ Below w.heap.size w w' := by
  have hB : ∀ ob, Below w.heap.size w (w.alloc ob) := fun ob => (Below.refl _ _).alloc (Nat.le_refl _) ob
  have hchk := Check_any seq A cap b (w.alloc (.cells #[.int .u64 (seq : Nat), .slice A b.length cap] 53)) hs (Reads.more (hr.below (hB _) (Nat.le_refl _)) (by simp)) hl
  generalize chkB ⟨seq, b⟩ = c at *
  have hcI : ¬ ((c : Nat) : Int) = 0 := by omega
  replace hchk := Lib.hid hchk
  clear hs
  go_enter Tryz.func56, Tryz.ntmps56
  go_wp2_with fail
  refine hchk.out.mono ?_
  rintro e w1 ⟨rfl, hb1⟩
  have hbw := (hB (.cells #[.int .u64 (seq : Nat), .slice A b.length cap] 53)).trans (hb1.mono (by simp))
  clear hb1
  replace hbw := Lib.hid hbw
  go_wp2_with fail
  go_ret2
  exact ⟨rfl, hbw.out⟩
set_option maxRecDepth 100000 in
set_option maxHeartbeats 4000000 in
theorem Enc_ok (seq : Nat) (A : Option Addr) (cap : Nat) (b : List OpE) (w : World) (hr : OpsR w w.heap.size A b) (hc : chkB ⟨seq, b⟩ = 0) :
    Calls Tryz.prog 56 #[.agg #[.int .u64 (seq : Nat), .slice A b.length cap]] w fun e w' => e = .returned (.tuple #[.string (bs (encB ⟨seq, b⟩)), .int .i64 0]) ∧ Below w.heap.size w w' := by
  obtain ⟨k1, k2, k3, k4, k5, k6⟩ := chkB_ok hc
  simp only at k1 k2 k3 k4 k5 k6
  have hB : ∀ ob, Below w.heap.size w (w.alloc ob) := fun ob => (Below.refl _ _).alloc (Nat.le_refl _) ob
  have hchk := Check_any seq A cap b (w.alloc (.cells #[.int .u64 (seq : Nat), .slice A b.length cap] 53)) (by omega) (Reads.more (hr.below (hB _) (Nat.le_refl _)) (by simp)) (by omega)
  rw [hc] at hchk
  have hnI : ((b.length : Nat) : Int) ≤ 16 := by omega
  have hlong : ∀ o ∈ b, o.key.length ≤ 64 ∧ o.value.length ≤ 512 := fun o ho => by
    have := List.any_eq_false.1 k2 o ho
    unfold longO at this
    simp at this
    exact this
  have hvar := fun (g : Nat) (W : World) (hg : g < W.heap.size) h0 h1 => Var_two g seq b.length W hg h0 h1 (by omega) (by omega)
  have hvl := varL_len [seq, b.length]
  simp only [List.length_cons, List.length_nil] at hvl
  have henc : encB ⟨seq, b⟩ = varL [seq, b.length] ++ (b.map encO).flatten := rfl
  have hflat : ∀ k, ((b.take k).map encO).flatten.length ≤ (b.take k).length * 600 := by
    intro k
    have hl2 : ∀ o ∈ b.take k, o.key.length ≤ 64 ∧ o.value.length ≤ 512 := fun o ho => hlong o (List.mem_of_mem_take ho)
    generalize b.take k = l at *
    induction l with
    | nil => simp
    | cons o l ih =>
      have h1 := ih (fun x hx => hl2 x (List.mem_cons_of_mem _ hx))
      obtain ⟨h2, h3⟩ := hl2 o (List.mem_cons_self ..)
      have e1 := varL1_len o.key.length
      have e2 := varL1_len o.value.length
      have h4 : (encO o).length ≤ 600 := by
        unfold encO
        split <;> simp [textL] <;> omega
      simp only [List.map_cons, List.flatten_cons, List.length_append, List.length_cons]
      omega
  clear k2 k6 hc
  replace hchk := Lib.hid hchk
  replace hvar := Lib.hid hvar
  replace hflat := Lib.hid hflat
  replace hlong := Lib.hid hlong
  replace henc := Lib.hid henc
  replace hr := Lib.hid hr
  generalize varL [seq, b.length] = V at *
  clear k3 k5
  go_enter Tryz.func56, Tryz.ntmps56
  go_wp2_with fail
  refine hchk.out.mono ?_
  rintro e w1 ⟨rfl, hb1⟩
  have c0 : w1.cell? ⟨w.heap.size, 0, none⟩ = some (.int .u64 (seq : Nat)) := (hb1.cell (p := ⟨w.heap.size, 0, none⟩) (by simp)).trans (by simp [go_sem])
  have c1 : w1.cell? ⟨w.heap.size, 1, none⟩ = some (.slice A b.length cap) := (hb1.cell (p := ⟨w.heap.size, 1, none⟩) (by simp)).trans (by simp [go_sem])
  have hz1 := hb1.size
  simp at hz1
  have hgl : w.heap.size < w1.heap.size := by omega
  have hgn : ¬ w.heap.size = w1.heap.size := by omega
  have hbw : Below w.heap.size w w1 := (hB (.cells #[.int .u64 (seq : Nat), .slice A b.length cap] 53)).trans (hb1.mono (by simp))
  clear hb1
  replace hbw := Lib.hid hbw
  go_wp2_with fail
  refine (hvar.out _ _ (by simp) (by simp [go_sem]) (by simp [go_sem])).mono ?_
  rintro e w2 ⟨rfl, hb2⟩
  have hI2 := ((IsB.new w1).below ((Below.refl _ _).alloc (Nat.le_refl _) (.cells #[.int .u64 (seq : Nat), .int .u64 (b.length : Nat)] 42))).below hb2
  have hbw2 : Below w1.heap.size w1 w2 := (((Below.refl _ _).alloc (Nat.le_refl _) _).alloc (by simp) _).trans (hb2.mono (by simp; omega))
  have hz2 := hbw2.size
  have hwr := write_any w1.heap.size w1.heap.size [] (bs V) w2 hI2 (by rw [bs_size]; simp; omega) (by omega)
  rw [bs_data, List.nil_append] at hwr
  clear hb2
  replace hwr := Lib.hid hwr
  replace hbw2 := Lib.hid hbw2
  replace hI2 := Lib.hid hI2
  go_wp2_with fail
  refine hwr.out.mono ?_
  rintro e w3 ⟨rfl, hI3, hb3⟩
  have hbw3 := hbw2.out.trans hb3
  have hz3 := hbw3.size
  have d1 := (hbw3.cell (p := ⟨w.heap.size, 1, none⟩) hgl).trans c1
  have hgl3 : w.heap.size < w3.heap.size := by omega
  replace hbw3 := Lib.hid hbw3
  clear hb3
  go_wp2_with fail
  go_loopw [25] (fun iv wr => ∃ k : Nat, k ≤ b.length ∧ iv = .int .i64 k ∧ IsB w1.heap.size w1.heap.size (V ++ ((b.take k).map encO).flatten) wr ∧ Below w1.heap.size w1 wr) (fun iv _ => b.length - (intOf iv).toNat)
  case atStart => exact ⟨0, Nat.zero_le _, rfl, by simpa using hI3, hbw3.out⟩
  case round =>
    obtain ⟨k, hk, rfl, hI, hbr⟩ := hrel
    have hzr := hbr.size
    by_cases hlt : k < b.length
    · have hlt' : (k : Int) < b.length := by omega
      have hbwr := hbw.out.trans (hbr.mono (by omega))
      obtain ⟨p, q, rfl, hpB, q0, q1, q2⟩ := (hr.out.below hbwr (Nat.le_refl _)).at_ (List.getElem?_eq_getElem hlt)
      have hts : V ++ ((b.take (k + 1)).map encO).flatten = (V ++ ((b.take k).map encO).flatten) ++ encO b[k] := by
        rw [List.take_succ_eq_append_getElem hlt, List.map_append, List.flatten_append]
        simp
      have hfl := hflat.out k
      rw [List.length_take] at hfl
      obtain ⟨hok, hov⟩ := hlong.out _ (List.getElem_mem hlt)
      generalize b[k] = o at *
      have hLl : (V ++ ((b.take k).map encO).flatten).length ≤ 9700 := by
        rw [List.length_append]
        omega
      generalize V ++ ((b.take k).map encO).flatten = L at *
      have hpl : p < wr.heap.size := by omega
      have e1 := varL1_len o.key.length
      have e2 := varL1_len o.value.length
      replace hts := Lib.hid hts
      replace hbr := Lib.hid hbr
      replace hbwr := Lib.hid hbwr
      clear hfl
      cases hgone : o.gone with
      | true =>
        rw [hgone] at q2
        have henc1 : encO o = 1 :: textL [o.key] := by unfold encO; rw [hgone]; rfl
        replace henc1 := Lib.hid henc1
        replace hgone := Lib.hid hgone
        have q3 : 1 + (bs (textL [o.key])).size ≤ 9223372036854775807 := by rw [bs_size]; simp [textL]; omega
        go_wp2_with fail
        refine (Text_one _ (bs o.key) _ (by simp) (by simp [go_sem]) (by rw [bs_size]; omega)).mono ?_
        rintro e w4 ⟨rfl, hb4⟩
        rw [bs_data]
        have hI4 : IsB w1.heap.size w1.heap.size L w4 := hI.below (((Below.refl _ _).alloc (Nat.le_refl _) _ |>.alloc (by simp) _).trans (hb4.mono (by simp; omega)))
        have hbw4 : Below w1.heap.size w1 w4 := ((hbr.out.alloc (by omega) _).alloc (by simp; omega) _).trans (hb4.mono (by simp; omega))
        have hz4 := hbw4.size
        have q4 : (({ data := #[1] } : ByteArray) ++ bs (textL [o.key])).size = 1 + (textL [o.key]).length := by rw [ByteArray.size_append, bs_size]; rfl
        have q5 : (textL [o.key]).length ≤ 80 := by simp [textL]; omega
        clear hb4
        replace hbw4 := Lib.hid hbw4
        go_wp2_with fail
        refine (write_any w1.heap.size w1.heap.size L _ _ hI4 (by rw [q4]; omega) (by omega)).mono ?_
        rintro e w5 ⟨rfl, hI5, hb5⟩
        have hbw5 := hbw4.out.trans hb5
        replace hbw5 := Lib.hid hbw5
        clear hb5
        have hI6 : IsB w1.heap.size w1.heap.size (L ++ encO o) w5 := by
          rw [henc1.out]
          simpa [bs] using hI5
        clear hI5
        replace hI6 := Lib.hid hI6
        go_wp2_with fail
        exact ⟨⟨k + 1, by omega, by go_num, by rw [hts.out]; exact hI6.out, hbw5.out⟩, by simp [intOf]; omega⟩
      | false =>
        rw [hgone] at q2
        have henc1 : encO o = 0 :: textL [o.key, o.value] := by unfold encO; rw [hgone]; rfl
        replace henc1 := Lib.hid henc1
        replace hgone := Lib.hid hgone
        have q3 : 1 + (bs (textL [o.key, o.value])).size ≤ 9223372036854775807 := by rw [bs_size]; simp [textL]; omega
        go_wp2_with fail
        refine (Text_two _ (bs o.key) (bs o.value) _ (by simp) (by simp [go_sem]) (by simp [go_sem]) (by rw [bs_size]; omega) (by rw [bs_size]; omega)).mono ?_
        rintro e w4 ⟨rfl, hb4⟩
        rw [bs_data, bs_data]
        have hI4 : IsB w1.heap.size w1.heap.size L w4 := hI.below (((Below.refl _ _).alloc (Nat.le_refl _) _ |>.alloc (by simp) _).trans (hb4.mono (by simp; omega)))
        have hbw4 : Below w1.heap.size w1 w4 := ((hbr.out.alloc (by omega) _).alloc (by simp; omega) _).trans (hb4.mono (by simp; omega))
        have hz4 := hbw4.size
        have q4 : (({ data := #[0] } : ByteArray) ++ bs (textL [o.key, o.value])).size = 1 + (textL [o.key, o.value]).length := by rw [ByteArray.size_append, bs_size]; rfl
        have q5 : (textL [o.key, o.value]).length ≤ 600 := by simp [textL]; omega
        clear hb4
        replace hbw4 := Lib.hid hbw4
        go_wp2_with fail
        refine (write_any w1.heap.size w1.heap.size L _ _ hI4 (by rw [q4]; omega) (by omega)).mono ?_
        rintro e w5 ⟨rfl, hI5, hb5⟩
        have hbw5 := hbw4.out.trans hb5
        replace hbw5 := Lib.hid hbw5
        clear hb5
        have hI6 : IsB w1.heap.size w1.heap.size (L ++ encO o) w5 := by
          rw [henc1.out]
          simpa [bs] using hI5
        clear hI5
        replace hI6 := Lib.hid hI6
        go_wp2_with fail
        exact ⟨⟨k + 1, by omega, by go_num, by rw [hts.out]; exact hI6.out, hbw5.out⟩, by simp [intOf]; omega⟩
    · obtain rfl : k = b.length := by omega
      rw [List.take_length] at hI
      have hst := Tryz.Builder_String_any w1.heap.size w1.heap.size _ _ hI hzr
      have hbwr := hbw.out.trans (hbr.mono (by omega))
      rw [← henc.out] at hst
      replace hst := Lib.hid hst
      replace hbr := Lib.hid hbr
      replace hbwr := Lib.hid hbwr
      clear hI
      go_wp2_with fail
      refine hst.out.mono ?_
      rintro e w4 ⟨rfl, hb4⟩
      have hb5 := hbwr.out.trans (hb4.mono (by omega))
      clear hb4
      go_wp2_with fail
      go_ret2
      exact ⟨rfl, hb5⟩
theorem RText_none (s : ByteArray) (most : Int) (w : World) (hs : s.size ≤ maxLen) (h0 : -9223372036854775808 ≤ most) (h1 : most ≤ 9223372036854775807) (h : readText s.data.toList most = none) :
    Calls Tryz.prog 132 #[.string s, .int .i64 most] w fun e w' => e = .returned (.tuple #[.string ⟨#[]⟩, .int .i64 0, .bool false]) ∧ Below w.heap.size w w' := by
  have := ReadText_any s most w hs h0 h1
  rw [h] at this
  exact this
theorem RText_some (s : ByteArray) (most : Int) (t : List UInt8) (z : Nat) (w : World) (hs : s.size ≤ maxLen) (h0 : -9223372036854775808 ≤ most) (h1 : most ≤ 9223372036854775807) (h : readText s.data.toList most = some (t, z)) :
    Calls Tryz.prog 132 #[.string s, .int .i64 most] w fun e w' => e = .returned (.tuple #[.string (bs t), .int .i64 z, .bool true]) ∧ Below w.heap.size w w' := by
  have := ReadText_any s most w hs h0 h1
  rw [h] at this
  exact this
theorem readText_le {l t : List UInt8} {most : Int} {z : Nat} (h : readText l most = some (t, z)) : 1 ≤ z ∧ z ≤ l.length := by
  unfold readText at h
  split at h
  · cases h
  · rename_i n k hv
    obtain ⟨h1, h2, _⟩ := readVar_le hv
    split at h
    · cases h
    · rename_i hb
      simp only [not_or] at hb
      injection h with h
      injection h with h3 h4
      omega
def opA (o : OpE) : Array Value := #[.string (bs o.key), .string (bs o.value), .bool o.gone]
def op0 : OpE := ⟨[], [], false⟩
def oneOV (o : Option (OpE × List UInt8)) : Value := .tuple #[.agg (opA ((o.map (·.1)).getD op0)), .string (bs ((o.map (·.2)).getD [])), .bool o.isSome]
theorem load_op {w : World} {g : Nat} {cs : Array Value} (h : Blk w g 60 cs) (hs : cs.size = 3) : (loadVar 60 ⟨g, 0, none⟩).run Tryz.prog w = .ok (.agg cs) w :=
  run_loadVar_row w g 60 60 cs (0, 0) _ h Tryz.underlying60 rfl (by rw [hs]; kernel_rfl)
theorem op_set {w : World} {g t : Nat} {cs : Array Value} (h : Blk w g t cs) (hs : cs.size = 3) (a b c : Value) : Blk (((w.setCell ⟨g, 0, none⟩ a).setCell ⟨g, 1, none⟩ b).setCell ⟨g, 2, none⟩ c) g t #[a, b, c] := by
  have := ((h.set_ 0 a).set_ 1 b).set_ 2 c
  rcases cs with ⟨_ | ⟨a, _ | ⟨b, _ | ⟨c, _ | ⟨x, l⟩⟩⟩⟩⟩
  all_goals first | exact this | (simp at hs; done) | (simp at hs; omega)
set_option maxRecDepth 100000 in
set_option maxHeartbeats 4000000 in
theorem bone_any (s : ByteArray) (w : World) (hs : s.size ≤ 1073741824) :
    Calls Tryz.prog 93 #[.string s] w fun e w' => e = .returned (oneOV (oneO s.data.toList)) ∧ Below w.heap.size w w' := by
  have hw0 : Blk (w.alloc (.cells #[.string ⟨#[]⟩, .string ⟨#[]⟩, .bool false] 60)) w.heap.size 60 (opA op0) := Blk.new _ _ _
  have hb0 : Below w.heap.size w (w.alloc (.cells #[.string ⟨#[]⟩, .string ⟨#[]⟩, .bool false] 60)) := (Below.refl _ _).alloc (Nat.le_refl _) _
  have hz0 : (w.alloc (.cells #[.string ⟨#[]⟩, .string ⟨#[]⟩, .bool false] 60)).heap.size = w.heap.size + 1 := by simp
  rcases hd : s.data.toList with _ | ⟨m, t⟩
  · have h1 : s.toList.isEmpty = true := by rw [ByteArray.toList_eq, hd]; rfl
    have h2 : s.toList = [] := by rw [ByteArray.toList_eq, hd]
    replace hd := Lib.hid hd
    go_enter Tryz.func93, Tryz.ntmps93
    go_wp2_with fail
    exact bodyPost_ret (v := oneOV none) (results_blk_tmp2 rfl _ _ w.heap.size (.agg (opA op0)) (.string ⟨#[]⟩) (.bool false) rfl rfl rfl (load_op hw0 rfl)) rfl ⟨rfl, hb0⟩
  · have h1 : s.toList.isEmpty = false := by rw [ByteArray.toList_eq, hd]; rfl
    have h2 : ¬ s.toList = [] := by rw [ByteArray.toList_eq, hd]; simp
    have hl := dlen s
    have h3 : 0 < s.size := by rw [← hl, hd]; simp
    have h3' : 1 ≤ s.size := h3
    obtain ⟨mk, hmk⟩ : ∃ x : ByteArray, s.extract 0 1 = x := ⟨_, rfl⟩
    have hmkl : mk.toList = [m] := by rw [ByteArray.toList_eq, ← hmk, ext_bs, bs_data, hd]; rfl
    obtain ⟨x, hx⟩ : ∃ x : ByteArray, s.extract 1 s.size = x := ⟨_, rfl⟩
    have hxl : x.data.toList = t := by rw [← hx, Lib.extract_to_end, hd]; rfl
    have hxs : x.size = s.size - 1 := by rw [← dlen, hxl, ← hl, hd]; simp
    have hone : oneO (m :: t) = match readText t 64 with
      | none => none
      | some (k, z) => if m = 1 then some (⟨k, [], true⟩, t.drop z) else if m = 0 then (match readText (t.drop z) 512 with
        | none => none
        | some (v, y) => some (⟨k, v, false⟩, (t.drop z).drop y)) else none := rfl
    replace hd := Lib.hid hd
    clear hl
    rcases hr : readText t 64 with _ | ⟨k, z⟩
    · have hE : oneO (m :: t) = none := by rw [hone, hr]
      have hread := fun W => RText_none x 64 W (by unfold maxLen; omega) (by omega) (by omega) (by rw [hxl]; exact hr)
      replace hread := Lib.hid hread
      replace hE := Lib.hid hE
      replace hr := Lib.hid hr
      clear hone hmkl hxs hxl
      go_enter Tryz.func93, Tryz.ntmps93
      go_wp2_with fail
      refine (hread.out _).mono ?_
      rintro e w1 ⟨rfl, hb1⟩
      have hw1 := hw0.below hb1 hw0.lt
      have hbw := hb0.trans (hb1.mono (by omega))
      have z0 : w1.cell? ⟨w.heap.size, 0, none⟩ = some (.string ⟨#[]⟩) := hw1.cell 0
      have z1 : w1.cell? ⟨w.heap.size, 1, none⟩ = some (.string ⟨#[]⟩) := hw1.cell 1
      have z2 : w1.cell? ⟨w.heap.size, 2, none⟩ = some (.bool false) := hw1.cell 2
      have y0 := hw1.frozen 0
      have y1 := hw1.frozen 1
      have y2 := hw1.frozen 2
      have zl := hw1.lt
      have hfin := op_set hw1 rfl (.string ⟨#[]⟩) (.string ⟨#[]⟩) (.bool false)
      replace hfin := Lib.hid hfin
      go_wp2_with fail
      exact bodyPost_ret (v := oneOV none) (results_blk_tmp2 rfl _ _ w.heap.size (.agg (opA op0)) (.string ⟨#[]⟩) (.bool false) rfl rfl rfl (load_op hfin.out rfl)) rfl ⟨by rw [hE.out], (((hbw.setCell (Nat.le_refl _) _).setCell (Nat.le_refl _) _).setCell (Nat.le_refl _) _)⟩
    · have hzl := readText_le hr
      rw [← hxl, dlen, hxs] at hzl
      have hread := fun W => RText_some x 64 k z W (by unfold maxLen; omega) (by omega) (by omega) (by rw [hxl]; exact hr)
      rw [hr] at hone
      simp only at hone
      obtain ⟨s2, hs2⟩ : ∃ x : ByteArray, s.extract (1 + z) s.size = x := ⟨_, rfl⟩
      have hs2l : s2.data.toList = t.drop z := by
        rw [← hs2, Lib.extract_to_end, hd.out, Nat.add_comm 1 z, List.drop_succ_cons]
      have hs2s : s2.size = s.size - (1 + z) := by rw [← dlen, hs2l, List.length_drop, ← hxl, dlen, hxs]; omega
      have hzb : 1 + z ≤ s.size := by omega
      replace hread := Lib.hid hread
      replace hr := Lib.hid hr
      have hzs : z ≤ 1073741824 := by omega
      clear hxs
      replace hxl := Lib.hid hxl
      by_cases hm1 : m = 1
      · have hE : oneO (m :: t) = some (⟨k, [], true⟩, t.drop z) := by rw [hone, if_pos hm1]
        have f1 : (mk.toList == [1]) = true := by rw [hmkl, hm1]; rfl
        have f0 : (mk.toList == [0]) = false := by rw [hmkl, hm1]; rfl
        have f1' : mk.toList = [1] := by rw [hmkl, hm1]
        have f0' : ¬ mk.toList = [0] := by rw [hmkl, hm1]; decide
        replace hE := Lib.hid hE
        replace hs2l := Lib.hid hs2l
        clear hone hmkl hs2s
        go_enter Tryz.func93, Tryz.ntmps93
        go_wp2_with fail
        refine (hread.out _).mono ?_
        rintro e w1 ⟨rfl, hb1⟩
        have hw1 := hw0.below hb1 hw0.lt
        have hbw := hb0.trans (hb1.mono (by omega))
        have z0 : w1.cell? ⟨w.heap.size, 0, none⟩ = some (.string ⟨#[]⟩) := hw1.cell 0
        have z1 : w1.cell? ⟨w.heap.size, 1, none⟩ = some (.string ⟨#[]⟩) := hw1.cell 1
        have z2 : w1.cell? ⟨w.heap.size, 2, none⟩ = some (.bool false) := hw1.cell 2
        have y0 := hw1.frozen 0
        have y1 := hw1.frozen 1
        have y2 := hw1.frozen 2
        have zl := hw1.lt
        have hfin := op_set hw1 rfl (.string (bs k)) (.string ⟨#[]⟩) (.bool true)
        replace hfin := Lib.hid hfin
        go_wp2_with fail
        exact bodyPost_ret (v := .tuple #[.agg #[.string (bs k), .string ⟨#[]⟩, .bool true], .string (s.extract (1 + z) s.size), .bool true]) (results_blk_tmp2 rfl _ _ w.heap.size (.agg #[.string (bs k), .string ⟨#[]⟩, .bool true]) (.string (s.extract (1 + z) s.size)) (.bool true) rfl rfl rfl (load_op hfin.out rfl)) rfl ⟨by rw [hE.out, ← hs2l.out, hs2]; simp only [oneOV, opA, Option.map_some, Option.getD_some, bs_of]; rfl, (((hbw.setCell (Nat.le_refl _) _).setCell (Nat.le_refl _) _).setCell (Nat.le_refl _) _)⟩
      · have f1 : (mk.toList == [1]) = false := by rw [hmkl]; simpa using hm1
        have f1' : ¬ mk.toList = [1] := by rw [hmkl]; simpa using hm1
        rw [if_neg hm1] at hone
        by_cases hm0 : m = 0
        · have f0 : (mk.toList == [0]) = true := by rw [hmkl, hm0]; rfl
          have f0' : mk.toList = [0] := by rw [hmkl, hm0]
          rw [if_pos hm0] at hone
          rcases hr2 : readText (t.drop z) 512 with _ | ⟨v, y⟩
          · have hE : oneO (m :: t) = none := by rw [hone, hr2]
            have hread2 := fun W => RText_none s2 512 W (by unfold maxLen; omega) (by omega) (by omega) (by rw [hs2l]; exact hr2)
            replace hread2 := Lib.hid hread2
            replace hE := Lib.hid hE
            replace hr2 := Lib.hid hr2
            replace hs2l := Lib.hid hs2l
            clear hone hmkl hs2s
            go_enter Tryz.func93, Tryz.ntmps93
            go_wp2_with fail
            refine (hread.out _).mono ?_
            rintro e w1 ⟨rfl, hb1⟩
            have hw1 := hw0.below hb1 hw0.lt
            have hbw1 := hb0.trans (hb1.mono (by omega))
            have hz1 := hb1.size
            clear hb1
            go_wp2_with fail
            refine (hread2.out _).mono ?_
            rintro e w2 ⟨rfl, hb2⟩
            have hw2 := hw1.below hb2 hw1.lt
            have hbw := hbw1.trans (hb2.mono (by omega))
            clear hb2
            have z0 : w2.cell? ⟨w.heap.size, 0, none⟩ = some (.string ⟨#[]⟩) := hw2.cell 0
            have z1 : w2.cell? ⟨w.heap.size, 1, none⟩ = some (.string ⟨#[]⟩) := hw2.cell 1
            have z2 : w2.cell? ⟨w.heap.size, 2, none⟩ = some (.bool false) := hw2.cell 2
            have y0 := hw2.frozen 0
            have y1 := hw2.frozen 1
            have y2 := hw2.frozen 2
            have zl := hw2.lt
            have hfin := op_set hw2 rfl (.string ⟨#[]⟩) (.string ⟨#[]⟩) (.bool false)
            replace hfin := Lib.hid hfin
            go_wp2_with fail
            exact bodyPost_ret (v := oneOV none) (results_blk_tmp2 rfl _ _ w.heap.size (.agg (opA op0)) (.string ⟨#[]⟩) (.bool false) rfl rfl rfl (load_op hfin.out rfl)) rfl ⟨by rw [hE.out], (((hbw.setCell (Nat.le_refl _) _).setCell (Nat.le_refl _) _).setCell (Nat.le_refl _) _)⟩
          · have hE : oneO (m :: t) = some (⟨k, v, false⟩, (t.drop z).drop y) := by rw [hone, hr2]
            have hyl := readText_le hr2
            rw [← hs2l, dlen] at hyl
            have hread2 := fun W => RText_some s2 512 v y W (by unfold maxLen; omega) (by omega) (by omega) (by rw [hs2l]; exact hr2)
            obtain ⟨s3, hs3⟩ : ∃ x : ByteArray, s2.extract y s2.size = x := ⟨_, rfl⟩
            have hs3l : s3.data.toList = (t.drop z).drop y := by rw [← hs3, Lib.extract_to_end, hs2l]
            have hyb := hyl.2
            have hys : y ≤ 1073741824 := by omega
            have hs2b : s2.size ≤ 1073741824 := by omega
            replace hread2 := Lib.hid hread2
            replace hE := Lib.hid hE
            replace hr2 := Lib.hid hr2
            replace hs2l := Lib.hid hs2l
            replace hs3l := Lib.hid hs3l
            clear hone hmkl hs2s
            go_enter Tryz.func93, Tryz.ntmps93
            go_wp2_with fail
            refine (hread.out _).mono ?_
            rintro e w1 ⟨rfl, hb1⟩
            have hw1 := hw0.below hb1 hw0.lt
            have hbw1 := hb0.trans (hb1.mono (by omega))
            have hz1 := hb1.size
            clear hb1
            go_wp2_with fail
            refine (hread2.out _).mono ?_
            rintro e w2 ⟨rfl, hb2⟩
            have hw2 := hw1.below hb2 hw1.lt
            have hbw2 := hbw1.trans (hb2.mono (by omega))
            clear hb2
            go_wp2_with fail
            have hxc := @Ext.cell
            have hxf := @Ext.frozen
            refine wp_hide (fun Q0 hQ0 => ?_)
            refine wp_region_line (fun w' => ∃ x : Ext _, w' = x.w) [some false, some false, some false, some true, some true, some true, none, none, none] 0 (by kernel_rfl) (by kernel_rfl) ⟨⟨_, (Below.refl _ _).drew⟩, rfl⟩ ?_
            simp only [earlyL, tailL]
            repeat (first | ((with_reducible refine wpMix_p ?_); go_big_quiet_step (fail); refine wpQuiet_nil ?_) | ((with_reducible refine wpMix_e ?_); go_big_quiet_step ((first | fail)); refine wpQuiet_nil ?_))
            refine wpMix_nil ?_
            clear hxc hxf
            intro wx hwx
            obtain ⟨x, hx⟩ := hwx
            have hb := x.below
            rw [← hx] at hb
            clear hx x
            have hw3 := hw2.below hb hw2.lt
            have hbw := hbw2.trans (hb.mono (by have := hw2.lt; omega))
            clear hb
            have z0 : wx.cell? ⟨w.heap.size, 0, none⟩ = some (.string ⟨#[]⟩) := hw3.cell 0
            have z1 : wx.cell? ⟨w.heap.size, 1, none⟩ = some (.string ⟨#[]⟩) := hw3.cell 1
            have z2 : wx.cell? ⟨w.heap.size, 2, none⟩ = some (.bool false) := hw3.cell 2
            have y0 := hw3.frozen 0
            have y1 := hw3.frozen 1
            have y2 := hw3.frozen 2
            have zl := hw3.lt
            have hfin := op_set hw3 rfl (.string (bs k)) (.string (bs v)) (.bool false)
            replace hfin := Lib.hid hfin
            refine wpTail_step ?_
            intro Q1 hQ1
            go_wp2_with (fail)
            refine hQ1 _ _ rfl (fun h => absurd h (by decide)) ?_
            clear hQ1 Q1
            refine wpTail_step ?_
            intro Q1 hQ1
            go_wp2_with (fail)
            refine hQ1 _ _ rfl (fun h => absurd h (by decide)) ?_
            clear hQ1 Q1
            refine wpTail_step ?_
            intro Q1 hQ1
            go_wp2_with (fail)
            refine hQ1 _ _ rfl (fun h => absurd h (by decide)) ?_
            clear hQ1 Q1
            refine wpTail_nil ?_
            refine hQ0 _ _ ?_
            clear hQ0 Q0
            go_wp2_with fail
            exact bodyPost_ret (v := .tuple #[.agg #[.string (bs k), .string (bs v), .bool false], .string s3, .bool true]) (results_blk_tmp2 rfl _ _ w.heap.size (.agg #[.string (bs k), .string (bs v), .bool false]) (.string s3) (.bool true) rfl rfl rfl (load_op hfin.out rfl)) rfl ⟨by rw [hE.out, ← hs3l.out]; simp only [oneOV, opA, Option.map_some, Option.getD_some, bs_of]; rfl, (((hbw.setCell (Nat.le_refl _) _).setCell (Nat.le_refl _) _).setCell (Nat.le_refl _) _)⟩
        · have f0 : (mk.toList == [0]) = false := by rw [hmkl]; simpa using hm0
          have f0' : ¬ mk.toList = [0] := by rw [hmkl]; simpa using hm0
          have hE : oneO (m :: t) = none := by rw [hone, if_neg hm0]
          replace hE := Lib.hid hE
          clear hone hmkl hs2s hs2l
          go_enter Tryz.func93, Tryz.ntmps93
          go_wp2_with fail
          refine (hread.out _).mono ?_
          rintro e w1 ⟨rfl, hb1⟩
          have hw1 := hw0.below hb1 hw0.lt
          have hbw := hb0.trans (hb1.mono (by omega))
          have z0 : w1.cell? ⟨w.heap.size, 0, none⟩ = some (.string ⟨#[]⟩) := hw1.cell 0
          have z1 : w1.cell? ⟨w.heap.size, 1, none⟩ = some (.string ⟨#[]⟩) := hw1.cell 1
          have z2 : w1.cell? ⟨w.heap.size, 2, none⟩ = some (.bool false) := hw1.cell 2
          have y0 := hw1.frozen 0
          have y1 := hw1.frozen 1
          have y2 := hw1.frozen 2
          have zl := hw1.lt
          have hfin := op_set hw1 rfl (.string ⟨#[]⟩) (.string ⟨#[]⟩) (.bool false)
          replace hfin := Lib.hid hfin
          go_wp2_with fail
          exact bodyPost_ret (v := oneOV none) (results_blk_tmp2 rfl _ _ w.heap.size (.agg (opA op0)) (.string ⟨#[]⟩) (.bool false) rfl rfl rfl (load_op hfin.out rfl)) rfl ⟨by rw [hE.out], (((hbw.setCell (Nat.le_refl _) _).setCell (Nat.le_refl _) _).setCell (Nat.le_refl _) _)⟩
def OwnO (w : World) (B : Nat) (v : Value) (l : List OpE) : Prop := w.ownsRow B 60 3 v l.length (opsV l)
theorem OwnO.below {w w' : World} {B : Nat} {v : Value} {l : List OpE} (h : OwnO w B v l) (hb : Below w.heap.size w w') : OwnO w' B v l :=
  own_block h fun k hk => hb.block k (own_lt h k hk).2
theorem OwnO.lt {w : World} {B : Nat} {v : Value} {l : List OpE} (h : OwnO w B v l) : ∀ k, v.ownBlock = some k → B ≤ k ∧ k < w.heap.size := own_lt h
theorem op_info : (Tryz.prog.info? 60).map (fun i => (i.zero, i.size, i.bytes)) = some (some (.agg #[.string ⟨#[]⟩, .string ⟨#[]⟩, .bool false]), 3, 40) := by kernel_rfl
theorem OwnO.form {w : World} {B : Nat} {v : Value} {l : List OpE} (h : OwnO w B v l) : ∃ A cap, v = .slice A l.length cap := by
  rcases h.2 with ⟨rfl, e⟩ | ⟨g, cap, cur, rfl, _⟩
  · exact ⟨none, 0, by rw [e]⟩
  · exact ⟨_, cap, rfl⟩
theorem OwnO.opsR {w : World} {B : Nat} {A : Option Addr} {n c : Nat} {l : List OpE} (h : OwnO w B (.slice A n c) l) : n = l.length ∧ OpsR w w.heap.size A l := by
  obtain ⟨A', cap, e⟩ := h.form
  injection e with e1 e2 e3
  subst e1 e2 e3
  exact ⟨rfl, Reads.of_own h⟩
theorem OwnO.snoc {w : World} {B : Nat} {v : Value} {l : List OpE} {o : OpE} (h : w.ownsRow B 60 3 v (l.length + 1) (opsV l ++ opL o)) : OwnO w B v (l ++ [o]) := by
  unfold OwnO opsV
  rw [List.length_append, List.flatMap_append]
  simpa [opsV] using h
theorem new_op (w : World) (t : TypeId) (o : OpE) : Reads (w.alloc (.cells #[.string (bs o.key), .string (bs o.value), .bool o.gone] t)) (w.heap.size + 1) 3 (some ⟨w.heap.size, 0, none⟩) 1 (opL o) :=
  ⟨rfl, fun _ => ⟨_, rfl, by simp, fun j u hu => by
    unfold opL at hu
    rcases j with _ | _ | _ | j
    · simp at hu; subst hu; simp [go_sem, Addr.add]
    · simp at hu; subst hu; simp [go_sem, Addr.add]
    · simp at hu; subst hu; simp [go_sem, Addr.add]
    · simp at hu⟩⟩
/-- A batch, or none. -/
def DecV (o : Option BatE) (B : Nat) (e : Ending) (w' : World) : Prop := match o with
  | none => e = .returned (.tuple #[.agg #[.int .u64 0, .slice none 0 0], .bool false])
  | some b => ∃ v, e = .returned (.tuple #[.agg #[.int .u64 (b.seq : Nat), v], .bool true]) ∧ OwnO w' B v b.ops
theorem DecV.none_ {o : Option BatE} {B : Nat} {w' : World} (h : o = none) : DecV o B (.returned (.tuple #[.agg #[.int .u64 0, .slice none 0 0], .bool false])) w' := by subst h; rfl
theorem DecV.some_ {o : Option BatE} {B seq : Nat} {ops : List OpE} {v : Value} {w' : World} (h : o = some ⟨seq, ops⟩) (hv : OwnO w' B v ops) : DecV o B (.returned (.tuple #[.agg #[.int .u64 (seq : Nat), v], .bool true])) w' := by subst h; exact ⟨v, rfl, hv⟩
theorem load_bat {w : World} {g : Nat} {cs : Array Value} (h : Blk w g 53 cs) (hs : cs.size = 2) : (loadVar 53 ⟨g, 0, none⟩).run Tryz.prog w = .ok (.agg cs) w :=
  run_loadVar_row w g 53 53 cs (0, 0) _ h Tryz.underlying53 rfl (by rw [hs]; kernel_rfl)
theorem bat_set {w : World} {g t : Nat} {cs : Array Value} (h : Blk w g t cs) (hs : cs.size = 2) (a b : Value) : Blk ((w.setCell ⟨g, 0, none⟩ a).setCell ⟨g, 1, none⟩ b) g t #[a, b] := by
  have := (h.set_ 0 a).set_ 1 b
  rcases cs with ⟨_ | ⟨a, _ | ⟨b, _ | ⟨x, l⟩⟩⟩⟩
  all_goals first | exact this | (simp at hs; done) | (simp at hs; omega)
theorem opsO_len : ∀ (n : Nat) (s : List UInt8) (ops : List OpE) (r : List UInt8), opsO n s = some (ops, r) → ops.length = n
  | 0, s, ops, r, h => by
    simp [opsO] at h
    rw [h.1]
    rfl
  | n + 1, s, ops, r, h => by
    unfold opsO at h
    split at h
    · cases h
    · rename_i o r' _
      rcases hq : opsO n r' with _ | ⟨q, r2⟩
      · rw [hq] at h; simp at h
      · rw [hq] at h
        simp at h
        rw [← h.1, List.length_cons, opsO_len n r' q r2 hq]
/-- The operations, one behind the other. -/
theorem opsO_step (n : Nat) (s : List UInt8) : opsO (n + 1) s = match oneO s with
  | none => none
  | some (o, r) => (opsO n r).map fun q => (o :: q.1, q.2) := rfl
theorem oneO_rest {s r : List UInt8} {o : OpE} (h : oneO s = some (o, r)) : r.length ≤ s.length := by
  unfold oneO at h
  split at h
  · cases h
  · split at h
    · cases h
    · split at h
      · injection h with h; injection h with _ h; rw [← h]; simp; omega
      · split at h
        · split at h
          · cases h
          · injection h with h; injection h with _ h; rw [← h]; simp; omega
        · cases h
theorem own_less {w : World} {B B' e size n : Nat} {v : Value} {xs : List Value} (h : w.ownsRow B e size v n xs) (hB : B' ≤ B) : w.ownsRow B' e size v n xs :=
  ⟨h.1, h.2.imp id fun ⟨g, cap, cur, hv, hg, rest⟩ => ⟨g, cap, cur, hv, Nat.le_trans hB hg, rest⟩⟩
theorem own_below2 {w w' : World} {B e size n : Nat} {v : Value} {xs : List Value} (h : w.ownsRow B e size v n xs) (hb : Below w.heap.size w w') : w'.ownsRow B e size v n xs :=
  own_block h fun k hk => hb.block k (own_lt h k hk).2
/-- Behind the append of an operation. -/
theorem dec_app {w W w6 : World} {g : Nat} {seq : Nat} {v v2 : Value} {done : List OpE} {o : OpE} {ob : Obj} (ho5 : OwnO W (w.heap.size + 1) v done) (hg5 : Blk W g 53 #[.int .u64 (seq : Nat), v]) (hw5 : Blk W w.heap.size 53 #[.int .u64 0, .slice none 0 0]) (hbw : Below w.heap.size w W) (hl : w.heap.size < g)
    (ho6 : w6.ownsRow (w.heap.size + 1) 60 3 v2 (done.length + 1) (opsV done ++ opL o)) (hg6 : (W.alloc ob).grownBy w6 v.ownBlock) :
    ∃ A2 c2, v2 = .slice A2 (done.length + 1) c2 ∧ w6.cell? ⟨g, 1, none⟩ = some v ∧ w6.frozen? ⟨g, 1, none⟩ = false ∧ g < w6.heap.size ∧
      Hid (Blk (w6.setCell ⟨g, 1, none⟩ (.slice A2 (done.length + 1) c2)) g 53 #[.int .u64 (seq : Nat), .slice A2 (done.length + 1) c2] ∧ OwnO (w6.setCell ⟨g, 1, none⟩ (.slice A2 (done.length + 1) c2)) (w.heap.size + 1) (.slice A2 (done.length + 1) c2) (done ++ [o]) ∧
      Blk (w6.setCell ⟨g, 1, none⟩ (.slice A2 (done.length + 1) c2)) w.heap.size 53 #[.int .u64 0, .slice none 0 0] ∧ Below w.heap.size w (w6.setCell ⟨g, 1, none⟩ (.slice A2 (done.length + 1) c2))) := by
  have ho7 : OwnO w6 (w.heap.size + 1) v2 (done ++ [o]) := OwnO.snoc ho6
  have hg7 := (hg5.alloc ob).grown hg6 (fun e => own_blk_ne ho5 hg5 (by decide) e.symm)
  have hw7 := (hw5.alloc ob).grown hg6 (fun e => by have := (ho5.lt _ e.symm).1; omega)
  have hbw7 : Below w.heap.size w w6 := (hbw.alloc hbw.size ob).grown hg6 (by have := hbw.size; simp; omega) (fun k hk => by have := (ho5.lt k hk).1; omega)
  obtain ⟨A2, c2, rfl⟩ := ho7.form
  rw [List.length_append, List.length_singleton] at *
  refine ⟨A2, c2, rfl, hg7.cell 1, hg7.frozen 1, hg7.lt, Lib.hid ⟨hg7.set_ 1 _, own_kept ho7 ((KeptBut.refl w6 (fun k => k = g)).then_set rfl) (fun k hk e => own_blk_ne ho7 hg7 (by decide) (by rw [hk, e])), hw7.far (p := ⟨g, 1, none⟩) (by show w.heap.size ≠ g; omega) _, hbw7.setCell (p := ⟨g, 1, none⟩) (by show w.heap.size ≤ g; omega) _⟩⟩
theorem RVar_none (s : ByteArray) (w : World) (hs : s.size ≤ maxLen) (h : readVar s.data.toList = none) :
    Calls Tryz.prog 92 #[.string s] w fun e w' => e = .returned (.tuple #[.int .u64 0, .int .i64 0, .bool false]) ∧ Below w.heap.size w w' := ReadVar_none s w hs h
set_option maxRecDepth 100000 in
set_option maxHeartbeats 4000000 in
theorem Decode_any (s : ByteArray) (w : World) (hs : s.size ≤ 1073741824) :
    Calls Tryz.prog 48 #[.string s] w fun e w' => DecV (decB s.data.toList) w.heap.size e w' ∧ Below w.heap.size w w' := by
  obtain ⟨i0, hi0, hi1, hi2, hi3⟩ := info_parts op_info
  have hw0 : Blk (w.alloc (.cells #[.int .u64 0, .slice none 0 0] 53)) w.heap.size 53 #[.int .u64 0, .slice none 0 0] := Blk.new _ _ _
  have hb0 : Below w.heap.size w (w.alloc (.cells #[.int .u64 0, .slice none 0 0] 53)) := (Below.refl _ _).alloc (Nat.le_refl _) _
  have hz0 : (w.alloc (.cells #[.int .u64 0, .slice none 0 0] 53)).heap.size = w.heap.size + 1 := by simp
  have hdec : decB s.data.toList = match readVar s.data.toList with
    | none => none
    | some (seq, z) => match readVar (s.data.toList.drop z) with
      | none => none
      | some (n, y) => if 16 < n then none else match opsO n ((s.data.toList.drop z).drop y) with
        | none => none
        | some (ops, rest) => if rest = [] ∧ chkB ⟨seq, ops⟩ = 0 then some ⟨seq, ops⟩ else none := rfl
  rcases hr : readVar s.data.toList with _ | ⟨seq, z⟩
  · rw [hr] at hdec
    have hE := Lib.hid hdec
    have hread := Lib.hid (fun W => ReadVar_none s W (by unfold maxLen; omega) hr)
    replace hr := Lib.hid hr
    clear hdec
    go_enter Tryz.func48, Tryz.ntmps48
    go_wp2_with fail
    refine (hread.out _).mono ?_
    rintro e w1 ⟨rfl, hb1⟩
    have hw1 := hw0.below hb1 hw0.lt
    have hbw := hb0.trans (hb1.mono (by omega))
    have z0 : w1.cell? ⟨w.heap.size, 0, none⟩ = some (.int .u64 0) := hw1.cell 0
    have z1 : w1.cell? ⟨w.heap.size, 1, none⟩ = some (.slice none 0 0) := hw1.cell 1
    have y0 := hw1.frozen 0
    have y1 := hw1.frozen 1
    have zl := hw1.lt
    have hfin := bat_set hw1 rfl (.int .u64 0) (.slice none 0 0)
    replace hfin := Lib.hid hfin
    go_wp2_with fail
    exact bodyPost_ret (v := .tuple #[.agg #[.int .u64 0, .slice none 0 0], .bool false]) (results_blk_tmp rfl _ _ w.heap.size (.agg #[.int .u64 0, .slice none 0 0]) (.bool false) rfl rfl (load_bat hfin.out rfl)) rfl ⟨DecV.none_ hE.out, ((hbw.setCell (Nat.le_refl _) _).setCell (Nat.le_refl _) _)⟩
  · have hzl := readVar_le hr
    rw [dlen] at hzl
    obtain ⟨s1, hs1⟩ : ∃ x : ByteArray, s.extract z s.size = x := ⟨_, rfl⟩
    have hs1l : s1.data.toList = s.data.toList.drop z := by rw [← hs1, Lib.extract_to_end]
    have hs1s : s1.size = s.size - z := by rw [← dlen, hs1l, List.length_drop, dlen]
    have hread := Lib.hid (fun W => ReadVar_some s seq z W (by unfold maxLen; omega) hr)
    rw [hr] at hdec
    simp only at hdec
    replace hr := Lib.hid hr
    have hzs : z ≤ s.size := hzl.2.1
    have hseqN := hzl.2.2
    clear hzl
    rcases hr2 : readVar (s.data.toList.drop z) with _ | ⟨n, y⟩
    · rw [hr2] at hdec
      have hE := Lib.hid hdec
      have hread2 := Lib.hid (fun W => ReadVar_none s1 W (by unfold maxLen; omega) (by rw [hs1l]; exact hr2))
      replace hr2 := Lib.hid hr2
      replace hs1l := Lib.hid hs1l
      clear hdec hseqN hs1s
      go_enter Tryz.func48, Tryz.ntmps48
      go_wp2_with fail
      refine (hread.out _).mono ?_
      rintro e w1 ⟨rfl, hb1⟩
      have hw1 := hw0.below hb1 hw0.lt
      have hbw1 := hb0.trans (hb1.mono (by omega))
      clear hb1
      go_wp2_with fail
      refine (hread2.out _).mono ?_
      rintro e w2 ⟨rfl, hb2⟩
      have hw2 := hw1.below hb2 hw1.lt
      have hbw := hbw1.trans (hb2.mono (by have := hw1.lt; omega))
      clear hb2
      have z0 : w2.cell? ⟨w.heap.size, 0, none⟩ = some (.int .u64 0) := hw2.cell 0
      have z1 : w2.cell? ⟨w.heap.size, 1, none⟩ = some (.slice none 0 0) := hw2.cell 1
      have y0 := hw2.frozen 0
      have y1 := hw2.frozen 1
      have zl := hw2.lt
      have hfin := bat_set hw2 rfl (.int .u64 0) (.slice none 0 0)
      replace hfin := Lib.hid hfin
      go_wp2_with fail
      exact bodyPost_ret (v := .tuple #[.agg #[.int .u64 0, .slice none 0 0], .bool false]) (results_blk_tmp rfl _ _ w.heap.size (.agg #[.int .u64 0, .slice none 0 0]) (.bool false) rfl rfl (load_bat hfin.out rfl)) rfl ⟨DecV.none_ hE.out, ((hbw.setCell (Nat.le_refl _) _).setCell (Nat.le_refl _) _)⟩
    · have hyl := readVar_le hr2
      rw [← hs1l, dlen] at hyl
      have hread2 := Lib.hid (fun W => ReadVar_some s1 n y W (by unfold maxLen; omega) (by rw [hs1l]; exact hr2))
      have hys : y ≤ s1.size := hyl.2.1
      rw [hr2] at hdec
      simp only at hdec
      replace hr2 := Lib.hid hr2
      by_cases hn : 16 < n
      · rw [if_pos hn] at hdec
        have hE := Lib.hid hdec
        have hnI : (16 : Int) < (n : Nat) := by omega
        replace hs1l := Lib.hid hs1l
        clear hdec hseqN hs1s hyl
        go_enter Tryz.func48, Tryz.ntmps48
        go_wp2_with fail
        refine (hread.out _).mono ?_
        rintro e w1 ⟨rfl, hb1⟩
        have hw1 := hw0.below hb1 hw0.lt
        have hbw1 := hb0.trans (hb1.mono (by omega))
        clear hb1
        go_wp2_with fail
        refine (hread2.out _).mono ?_
        rintro e w2 ⟨rfl, hb2⟩
        have hw2 := hw1.below hb2 hw1.lt
        have hbw := hbw1.trans (hb2.mono (by have := hw1.lt; omega))
        clear hb2
        have z0 : w2.cell? ⟨w.heap.size, 0, none⟩ = some (.int .u64 0) := hw2.cell 0
        have z1 : w2.cell? ⟨w.heap.size, 1, none⟩ = some (.slice none 0 0) := hw2.cell 1
        have y0 := hw2.frozen 0
        have y1 := hw2.frozen 1
        have zl := hw2.lt
        have hfin := bat_set hw2 rfl (.int .u64 0) (.slice none 0 0)
        replace hfin := Lib.hid hfin
        go_wp2_with fail
        exact bodyPost_ret (v := .tuple #[.agg #[.int .u64 0, .slice none 0 0], .bool false]) (results_blk_tmp rfl _ _ w.heap.size (.agg #[.int .u64 0, .slice none 0 0]) (.bool false) rfl rfl (load_bat hfin.out rfl)) rfl ⟨DecV.none_ hE.out, ((hbw.setCell (Nat.le_refl _) _).setCell (Nat.le_refl _) _)⟩
      · rw [if_neg hn] at hdec
        have hnI : ¬ (16 : Int) < (n : Nat) := by omega
        obtain ⟨s2, hs2⟩ : ∃ x : ByteArray, s.extract (z + y) s.size = x := ⟨_, rfl⟩
        have hs2l : s2.data.toList = (s.data.toList.drop z).drop y := by rw [← hs2, Lib.extract_to_end, List.drop_drop]
        have hzy : z + y ≤ s.size := by omega
        have hs2s : s2.size ≤ 1073741824 := by rw [← dlen, hs2l, List.length_drop, List.length_drop, dlen]; omega
        rw [← hs2l] at hdec
        replace hs2l := Lib.hid hs2l
        replace hs1l := Lib.hid hs1l
        replace hdec := Lib.hid hdec
        have hyz : y ≤ 1073741824 := by omega
        clear hyl hs1s
        replace hseqN := Lib.hid hseqN
        go_enter Tryz.func48, Tryz.ntmps48
        go_wp2_with fail
        refine (hread.out _).mono ?_
        rintro e w1 ⟨rfl, hb1⟩
        have hw1 := hw0.below hb1 hw0.lt
        have hbw1 := hb0.trans (hb1.mono (by omega))
        clear hb1
        go_wp2_with fail
        refine (hread2.out _).mono ?_
        rintro e w2 ⟨rfl, hb2⟩
        have hw2 := hw1.below hb2 hw1.lt
        have hbw2 := hbw1.trans (hb2.mono (by have := hw1.lt; omega))
        clear hb2 hw1 hbw1
        have hl2 := hw2.lt
        have hg3 : Blk (w2.alloc (.cells #[.int .u64 (seq : Nat), .slice none 0 0] 53)) w2.heap.size 53 #[.int .u64 (seq : Nat), .slice none 0 0] := Blk.new _ _ _
        have hw3 := hw2.alloc (.cells #[.int .u64 (seq : Nat), .slice none 0 0] 53)
        have hbw3 := hbw2.alloc hbw2.size (.cells #[.int .u64 (seq : Nat), .slice none 0 0] 53)
        replace hbw2 := Lib.hid hbw2
        replace hbw3 := Lib.hid hbw3
        replace hw3 := Lib.hid hw3
        replace hg3 := Lib.hid hg3
        go_wp2_with fail
        rw [hs2]
        go_loopw [0, 7] (fun sv nv wr => ∃ (q : ByteArray) (m : Nat) (done : List OpE) (v : Value), sv = .string q ∧ nv = .int .u64 (m : Nat) ∧ Blk wr w2.heap.size 53 #[.int .u64 (seq : Nat), v] ∧ OwnO wr (w.heap.size + 1) v done ∧ Blk wr w.heap.size 53 #[.int .u64 0, .slice none 0 0] ∧ Below w.heap.size w wr ∧ opsO n s2.data.toList = (opsO m q.data.toList).map (fun x => (done ++ x.1, x.2)) ∧ q.size ≤ 1073741824 ∧ done.length + m = n) (fun _ nv _ => (intOf nv).toNat)
        case atStart => exact ⟨s2, n, [], .slice none 0 0, rfl, rfl, hg3.out, World.ownsRow_nil _ _ _ _, hw3.out, hbw3.out, by simp, hs2s, by simp⟩
        case round =>
          obtain ⟨q, m, done, v, rfl, rfl, hg, ho, hw4, hbr, hops, hqs, hdn⟩ := hrel
          have hlg := hg.lt
          have hlw := hw4.lt
          have hzr := hbr.size
          by_cases hm : m = 0
          · subst hm
            have hops2 : opsO n s2.data.toList = some (done, q.data.toList) := by rw [hops]; simp [opsO]
            have hdec2 : decB s.data.toList = if q.data.toList = [] ∧ chkB ⟨seq, done⟩ = 0 then some ⟨seq, done⟩ else none := by rw [hdec.out, hops2]
            obtain ⟨Av, cv, rfl⟩ := ho.form
            have x0 : wr.cell? ⟨w2.heap.size, 0, none⟩ = some (.int .u64 (seq : Nat)) := hg.cell 0
            have x1 : wr.cell? ⟨w2.heap.size, 1, none⟩ = some (.slice Av done.length cv) := hg.cell 1
            replace hops := Lib.hid hops
            replace hops2 := Lib.hid hops2
            by_cases hq : q.data.toList = []
            · have hqe : q.toList.isEmpty = true := by rw [ByteArray.toList_eq, hq]; rfl
              have hqe2 : q.toList = [] := by rw [ByteArray.toList_eq, hq]
              have hchk := Check_any seq Av cv done wr hseqN.out (ho.opsR).2 (by omega)
              by_cases hc : chkB ⟨seq, done⟩ = 0
              · rw [if_pos ⟨hq, hc⟩] at hdec2
                rw [hc] at hchk
                replace hdec2 := Lib.hid hdec2
                replace hchk := Lib.hid hchk
                replace hq := Lib.hid hq
                replace hc := Lib.hid hc
                go_wp2_with fail
                refine hchk.out.mono ?_
                rintro e w5 ⟨rfl, hb5⟩
                have hw5 := hw4.below hb5 hlw
                have hg5 := hg.below hb5 hlg
                have ho5 := ho.below hb5
                have hbw := hbr.trans (hb5.mono hzr)
                clear hb5 x0 x1
                have x0 : w5.cell? ⟨w2.heap.size, 0, none⟩ = some (.int .u64 (seq : Nat)) := hg5.cell 0
                have x1 : w5.cell? ⟨w2.heap.size, 1, none⟩ = some (.slice Av done.length cv) := hg5.cell 1
                have xl := hg5.lt
                have z0 : w5.cell? ⟨w.heap.size, 0, none⟩ = some (.int .u64 0) := hw5.cell 0
                have z1 : w5.cell? ⟨w.heap.size, 1, none⟩ = some (.slice none 0 0) := hw5.cell 1
                have y0 := hw5.frozen 0
                have y1 := hw5.frozen 1
                have zl := hw5.lt
                have hfin := bat_set hw5 rfl (.int .u64 (seq : Nat)) (.slice Av done.length cv)
                have hof : OwnO ((w5.setCell ⟨w.heap.size, 0, none⟩ (.int .u64 (seq : Nat))).setCell ⟨w.heap.size, 1, none⟩ (.slice Av done.length cv)) w.heap.size (.slice Av done.length cv) done :=
                  own_less (own_kept ho5 (((KeptBut.refl w5 (fun k => k = w.heap.size)).then_set rfl).then_set rfl) (fun k hk e => by have := (ho5.lt k hk).1; omega)) (by omega)
                replace hfin := Lib.hid hfin
                replace hof := Lib.hid hof
                clear hg hg5 ho ho5 hw4 hw5
                go_wp2_with fail
                exact bodyPost_ret (v := .tuple #[.agg #[.int .u64 (seq : Nat), .slice Av done.length cv], .bool true]) (results_blk_tmp rfl _ _ w.heap.size (.agg #[.int .u64 (seq : Nat), .slice Av done.length cv]) (.bool true) rfl rfl (load_bat hfin.out rfl)) rfl ⟨DecV.some_ hdec2.out hof.out, ((hbw.setCell (Nat.le_refl _) _).setCell (Nat.le_refl _) _)⟩
              · rw [if_neg (by rintro ⟨_, h⟩; exact hc h)] at hdec2
                have hE := Lib.hid hdec2
                generalize chkB ⟨seq, done⟩ = cc at *
                have hcI : ¬ ((cc : Nat) : Int) = 0 := by omega
                replace hchk := Lib.hid hchk
                replace hq := Lib.hid hq
                clear hdec2
                go_wp2_with fail
                refine hchk.out.mono ?_
                rintro e w5 ⟨rfl, hb5⟩
                have hw5 := hw4.below hb5 hlw
                have hbw := hbr.trans (hb5.mono hzr)
                clear hb5 x0 x1
                have z0 : w5.cell? ⟨w.heap.size, 0, none⟩ = some (.int .u64 0) := hw5.cell 0
                have z1 : w5.cell? ⟨w.heap.size, 1, none⟩ = some (.slice none 0 0) := hw5.cell 1
                have y0 := hw5.frozen 0
                have y1 := hw5.frozen 1
                have zl := hw5.lt
                have hfin := bat_set hw5 rfl (.int .u64 0) (.slice none 0 0)
                replace hfin := Lib.hid hfin
                go_wp2_with fail
                exact bodyPost_ret (v := .tuple #[.agg #[.int .u64 0, .slice none 0 0], .bool false]) (results_blk_tmp rfl _ _ w.heap.size (.agg #[.int .u64 0, .slice none 0 0]) (.bool false) rfl rfl (load_bat hfin.out rfl)) rfl ⟨DecV.none_ hE.out, ((hbw.setCell (Nat.le_refl _) _).setCell (Nat.le_refl _) _)⟩
            · have hqe : q.toList.isEmpty = false := by rw [ByteArray.toList_eq]; simpa using hq
              have hqe2 : ¬ q.toList = [] := by rw [ByteArray.toList_eq]; exact hq
              rw [if_neg (by rintro ⟨h, _⟩; exact hq h)] at hdec2
              have hE := Lib.hid hdec2
              have hbw := hbr
              replace hq := Lib.hid hq
              clear hdec2 x0 x1
              have z0 : wr.cell? ⟨w.heap.size, 0, none⟩ = some (.int .u64 0) := hw4.cell 0
              have z1 : wr.cell? ⟨w.heap.size, 1, none⟩ = some (.slice none 0 0) := hw4.cell 1
              have y0 := hw4.frozen 0
              have y1 := hw4.frozen 1
              have zl := hw4.lt
              have hfin := bat_set hw4 rfl (.int .u64 0) (.slice none 0 0)
              replace hfin := Lib.hid hfin
              go_wp2_with fail
              exact bodyPost_ret (v := .tuple #[.agg #[.int .u64 0, .slice none 0 0], .bool false]) (results_blk_tmp rfl _ _ w.heap.size (.agg #[.int .u64 0, .slice none 0 0]) (.bool false) rfl rfl (load_bat hfin.out rfl)) rfl ⟨DecV.none_ hE.out, ((hbw.setCell (Nat.le_refl _) _).setCell (Nat.le_refl _) _)⟩
          · obtain ⟨m, rfl⟩ : ∃ k, m = k + 1 := ⟨m - 1, by omega⟩
            have hmI : (0 : Int) < ((m + 1 : Nat) : Int) := by omega
            have hone := bone_any q wr hqs
            rcases hr3 : oneO q.data.toList with _ | ⟨o, r⟩
            · have hops2 : opsO n s2.data.toList = none := by rw [hops, opsO_step, hr3]; rfl
              have hE : decB s.data.toList = none := by rw [hdec.out, hops2]
              rw [hr3] at hone
              simp only [oneOV, opA, op0, Option.map_none, Option.getD_none, Option.isSome_none] at hone
              replace hone := Lib.hid hone
              replace hE := Lib.hid hE
              replace hops := Lib.hid hops
              replace hops2 := Lib.hid hops2
              replace hr3 := Lib.hid hr3
              go_wp2_with fail
              refine hone.out.mono ?_
              rintro e w5 ⟨rfl, hb5⟩
              have hd5 := hw4.below hb5 hlw
              have hbw := hbr.trans (hb5.mono hzr)
              have hl5 := hd5.lt
              clear hb5
              have z0 : w5.cell? ⟨w.heap.size, 0, none⟩ = some (.int .u64 0) := hd5.cell 0
              have z1 : w5.cell? ⟨w.heap.size, 1, none⟩ = some (.slice none 0 0) := hd5.cell 1
              have y0 := hd5.frozen 0
              have y1 := hd5.frozen 1
              have zl := hd5.lt
              have hfin := bat_set hd5 rfl (.int .u64 0) (.slice none 0 0)
              replace hfin := Lib.hid hfin
              clear hfin
              have hfin := (bat_set hd5 rfl (.int .u64 0) (.slice none 0 0)).alloc (.cells #[.string (bs []), .string (bs []), .bool false] 60)
              replace hfin := Lib.hid hfin
              go_wp2_with fail
              exact bodyPost_ret (v := .tuple #[.agg #[.int .u64 0, .slice none 0 0], .bool false]) (results_blk_tmp rfl _ _ w.heap.size (.agg #[.int .u64 0, .slice none 0 0]) (.bool false) rfl rfl (load_bat hfin.out rfl)) rfl ⟨DecV.none_ hE.out, ((hbw.setCell (Nat.le_refl _) _).setCell (Nat.le_refl _) _).alloc (by simp only [World.size_setCell]; omega) _⟩
            · have hops2 : opsO n s2.data.toList = (opsO m r).map (fun x => ((done ++ [o]) ++ x.1, x.2)) := by
                rw [hops, opsO_step, hr3]
                simp only [Option.map_map]
                congr 1
                funext x
                simp
              have hrl := oneO_rest hr3
              rw [dlen] at hrl
              rw [hr3] at hone
              simp only [oneOV, opA, Option.map_some, Option.getD_some, Option.isSome_some] at hone
              obtain ⟨Av, cv, rfl⟩ := ho.form
              have hdl : done.length ≤ 16 := by omega
              replace hone := Lib.hid hone
              replace hops := Lib.hid hops
              replace hops2 := Lib.hid hops2
              replace hr3 := Lib.hid hr3
              go_wp2_with fail
              refine hone.out.mono ?_
              rintro e w5 ⟨rfl, hb5⟩
              have hw5 := (hw4.below hb5 hlw).alloc (.cells #[.string (bs o.key), .string (bs o.value), .bool o.gone] 60)
              have hg5 := (hg.below hb5 hlg).alloc (.cells #[.string (bs o.key), .string (bs o.value), .bool o.gone] 60)
              have ho5 := (ho.below hb5).below ((Below.refl _ _).alloc (Nat.le_refl _) (.cells #[.string (bs o.key), .string (bs o.value), .bool o.gone] 60))
              have hbw5 := hbr.trans (hb5.mono hzr)
              have hbw := hbw5.alloc hbw5.size (.cells #[.string (bs o.key), .string (bs o.value), .bool o.gone] 60)
              have x1 : w5.cell? ⟨w2.heap.size, 1, none⟩ = some (.slice Av done.length cv) := (hg.below hb5 hlg).cell 1
              have xl := (hg.below hb5 hlg).lt
              have hz5 := hbw5.size
              clear hb5
              replace hw5 := Lib.hid hw5
              replace hg5 := Lib.hid hg5
              replace hbw := Lib.hid hbw
              go_wp2_with (at_builtin; refine wpList_append_any _ rfl (.tmp 58) (.tmp 60) _ rfl (w.heap.size + 1) 60 i0 _ 3 40 Tryz.underlying51 hi0 hi1 hi2 hi3 rfl (by omega) _ done.length (opsV done) rfl (own_below2 ho5 ((Below.refl _ _).alloc (Nat.le_refl _) _)) (w5.heap.size + 1 + 1) (some ⟨w5.heap.size + 1, 0, none⟩) 1 1 (opL o) rfl ?c0 ?c1 ?c2 ?c3 ?c4 ?_; rotate_left 5; intro v2 w6 ho6 hg6 hat6; obtain ⟨A2, c2, rfl, u1, f1, ul, hall⟩ := dec_app ho5 hg5.out hw5.out hbw.out hl2 ho6 hg6; clear ho6 hg6 hat6)
              case c0 => have := new_op (w5.alloc (.cells #[.string (bs o.key), .string (bs o.value), .bool o.gone] 60)) 60 o; simpa using this
              case c1 => intro u hu; simp [opL] at hu; rcases hu with rfl | rfl | rfl <;> rfl
              case c2 => simp only [maxLen]; omega
              case c3 => omega
              case c4 => simp; omega
              obtain ⟨hg8, ho8, hw8, hb8⟩ := hall.out
              exact ⟨⟨bs r, m, done ++ [o], _, rfl, by go_num, hg8, ho8, hw8, hb8, by rw [bs_data]; exact hops2.out, by rw [bs_size]; omega, by rw [List.length_append, List.length_singleton]; omega⟩, by simp [intOf]⟩
set_option maxRecDepth 100000 in
set_option maxHeartbeats 2000000 in
theorem ins_nil (w : World) : Calls Tryz.prog 145 #[.slice none 0 0, .int .i64 0, .int .i64 0] w fun e w' => e = .returned (.tuple #[]) ∧ w = w' := by
  go_enter Tryz.func145, Tryz.ntmps145
  go_wp2_with fail
  go_loopw [6] (fun iv wr => iv = .int .i64 1 ∧ w = wr) (fun iv _ => 0)
  case atStart => exact ⟨rfl, rfl⟩
  case round =>
    obtain ⟨rfl, rfl⟩ := hrel
    go_wp2_with fail
    go_end0
    exact ⟨rfl, rfl⟩
set_option maxRecDepth 100000 in
set_option maxHeartbeats 2000000 in
theorem pdq_nil (w : World) : Calls Tryz.prog 107 #[.slice none 0 0, .int .i64 0, .int .i64 0, .int .i64 0] w fun e w' => e = .returned (.tuple #[]) ∧ w = w' := by
  have h1 := Lib.hid (ins_nil w)
  go_enter Tryz.func107, Tryz.ntmps107
  go_wp2_with fail
  go_loopw [1, 2, 3, 8, 9] (fun av bv lv xv yv wr => av = .int .i64 0 ∧ bv = .int .i64 0 ∧ lv = .int .i64 0 ∧ xv = .bool true ∧ yv = .bool true ∧ w = wr) (fun _ _ _ _ _ _ => 0)
  case atStart => exact ⟨rfl, rfl, rfl, rfl, rfl, rfl⟩
  case round =>
    obtain ⟨rfl, rfl, rfl, rfl, rfl, rfl⟩ := hrel
    go_wp2_with fail
    refine h1.out.mono ?_
    rintro e w1 ⟨rfl, rfl⟩
    go_wp2_with fail
    refine bodyPost_ret (results_none (by kernel_rfl) _ _ _) rfl ?_
    exact ⟨rfl, rfl⟩
set_option maxRecDepth 100000 in
set_option maxHeartbeats 2000000 in
theorem Sort_nil (w : World) : Calls Tryz.prog 59 #[.slice none 0 0] w fun e w' => e = .returned (.tuple #[]) ∧ w = w' := by
  have hlen := Lib.hid (Tryz.bits_Len 0 w (by omega) (by omega))
  have hpd := Lib.hid (pdq_nil w)
  go_enter Tryz.func59, Tryz.ntmps59
  go_wp2_with fail
  refine hlen.out.mono ?_
  rintro e w1 ⟨rfl, rfl⟩
  have e0 : ((Lib.bitLen (0 : Int).toNat : Nat) : Int) = 0 := by decide
  rw [e0]
  go_wp2_with fail
  refine hpd.out.mono ?_
  rintro e w2 ⟨rfl, rfl⟩
  go_wp2_with fail
  go_end0
  exact ⟨rfl, rfl⟩
def u64sV (l : List Nat) : List Value := l.map fun n => .int .u64 (n : Nat)
def OwnU (w : World) (B : Nat) (v : Value) (l : List Nat) : Prop := w.ownsRow B 42 1 v l.length (u64sV l)
theorem OwnU.below {w w' : World} {B : Nat} {v : Value} {l : List Nat} (h : OwnU w B v l) (hb : Below w.heap.size w w') : OwnU w' B v l := own_below h hb
theorem OwnU.lt {w : World} {B : Nat} {v : Value} {l : List Nat} (h : OwnU w B v l) : ∀ k, v.ownBlock = some k → B ≤ k ∧ k < w.heap.size := own_lt h
theorem OwnU.snoc {w : World} {B : Nat} {v : Value} {l : List Nat} {n : Nat} (h : w.ownsRow B 42 1 v (l.length + 1) (u64sV l ++ [.int .u64 (n : Nat)])) : OwnU w B v (l ++ [n]) := by
  unfold OwnU u64sV
  rw [List.length_append, List.map_append]
  exact h
theorem OwnU.form {w : World} {B : Nat} {v : Value} {l : List Nat} (h : OwnU w B v l) : (l = [] ∧ v = .slice none 0 0) ∨ ∃ g cap, v = .slice (some ⟨g, 0, none⟩) l.length cap ∧ g < w.heap.size ∧ NumsAt w g l := by
  rcases h.2 with ⟨rfl, e⟩ | ⟨g, cap, cur, rfl, _⟩
  · exact .inl ⟨List.eq_nil_of_length_eq_zero e, rfl⟩
  · refine .inr ⟨g, cap, rfl, (h.lt g rfl).2, fun i x hx => ?_⟩
    have hc := World.ownsRow.cells h (g := g) rfl i (.int .u64 (x : Nat)) (by unfold u64sV; rw [List.getElem?_map, hx]; rfl)
    rwa [add_flat, Nat.zero_add] at hc
theorem u64_info : (Tryz.prog.info? 42).map (fun i => (i.zero, i.size, i.bytes)) = some (some (.int .u64 0), 1, 8) := by kernel_rfl
theorem new_num (w : World) (X : Int) (t : TypeId) : Reads (w.alloc (.cells #[.int .u64 X] t)) (w.heap.size + 1) 1 (some ⟨w.heap.size, 0, none⟩) 1 [.int .u64 X] := new_u64 w X t
theorem Sort_any {w : World} {B : Nat} {v : Value} {l : List Nat} (h : OwnU w B v l) (hl : l.Pairwise (· ≤ ·)) (hn : l.length ≤ 1073741824) :
    Calls Tryz.prog 59 #[v] w fun e w' => e = .returned (.tuple #[]) ∧ Below w.heap.size w w' := by
  rcases h.form with ⟨rfl, rfl⟩ | ⟨g, cap, rfl, hg, hA⟩
  · exact (Sort_nil w).mono fun e w' ⟨he, hw⟩ => ⟨he, hw ▸ Below.refl _ _⟩
  · exact Sort_some hg hA hl hn
/-- The logs' numbers az the names come. -/
def Dsk.rawW (s : Dsk) : List Nat := s.names.filterMap fun p => numP logW p.1
theorem rawW_sorted {s : Dsk} (h : s.rawW.Pairwise (· ≤ ·)) : s.logsW = s.rawW := by
  unfold Dsk.logsW
  have h1 := List.pairwise_mergeSort (le := fun a b : Nat => decide (a ≤ b)) (fun a b c h1 h2 => by simp only [decide_eq_true_eq] at *; omega) (fun a b => by simp only [Bool.or_eq_true, decide_eq_true_eq]; omega) s.rawW
  exact sorted_eq _ _ (h1.imp fun h => by simpa using h) h (List.mergeSort_perm _ _)
set_option maxRecDepth 100000 in
set_option maxHeartbeats 4000000 in
theorem Logs_any {X : Nat → Prop} {w : World} {d : Nat} {s : Dsk} {m : Nat} (h : Dx X w d s) (hG : Glo w) (g : s.Good m) (hm : m < 1000000000) (hs : s.rawW.Pairwise (· ≤ ·)) :
    Calls Tryz.prog 21 #[.pointer (some ⟨d, 0, none⟩)] w fun e w' => ∃ v, e = .returned v ∧ OwnU w' w.heap.size v s.logsW ∧ Below w.heap.size w w' := by
  rw [rawW_sorted hs]
  obtain ⟨i0, hi0, hz0, hz1, hz2⟩ := info_parts u64_info
  have hlist := Lib.hid (List_dx h g (by omega))
  have hnl := g.names
  have hnb : ∀ p ∈ s.names, p.1.length ≤ 24 := fun p hp => by
    have := (g.ok.names p hp).1
    omega
  have hnum := Lib.hid (fun (W : World) (hW : Glo W) (x : ByteArray) (hx : x.size ≤ 24) => Number_any ⟨#[108, 111, 103]⟩ x (by decide) (by omega) W hW.five (by have := hW.size; omega))
  have hraw : ∀ k, k < s.names.length → ∀ p, s.names[k]? = some p → (s.names.take (k + 1)).filterMap (fun p => numP logW p.1) = (s.names.take k).filterMap (fun p => numP logW p.1) ++ (numP logW p.1).toList := by
    intro k hk p hp
    rw [List.take_succ_eq_append_getElem hk, List.filterMap_append]
    obtain ⟨_, rfl⟩ := List.getElem?_eq_some_iff.1 hp
    cases hq : numP logW s.names[k].1 <;> simp [List.filterMap_cons, hq]
  have hrl : ∀ k, ((s.names.take k).filterMap (fun p => numP logW p.1)).length ≤ k := fun k => by
    have h1 := List.length_filterMap_le (fun p : List UInt8 × Nat => numP logW p.1) (s.names.take k)
    rw [List.length_take] at h1
    omega
  obtain ⟨N, hN⟩ : ∃ N, s.names.length = N := ⟨_, rfl⟩
  have hfin : s.rawW = (s.names.take N).filterMap (fun p => numP logW p.1) := by rw [← hN, List.take_length]; rfl
  rw [hfin] at hs ⊢
  replace hs := Lib.hid hs
  replace hraw := Lib.hid hraw
  replace hrl := Lib.hid hrl
  replace hfin := Lib.hid hfin
  replace hnb := Lib.hid hnb
  replace hG := Lib.hid hG
  go_enter Tryz.func21, Tryz.ntmps21
  go_wp2_with fail
  refine hlist.out.mono ?_
  rintro e w1 ⟨lv, rfl, hrow, hb1⟩
  obtain ⟨LA, Lc, hform⟩ : ∃ A c, lv = .slice A s.names.length c := by
    rcases hrow.2 with ⟨rfl, e⟩ | ⟨gg, cap, cur, rfl, _⟩
    · exact ⟨none, 0, by rw [e]⟩
    · exact ⟨_, cap, rfl⟩
  subst hform
  have hrd := Reads.of_own hrow
  have hz1' := hb1.size
  clear hrow
  replace hrd := Lib.hid hrd
  replace hb1 := Lib.hid hb1
  rw [hN]
  rw [hN] at hnl
  go_wp2_with fail
  go_loopw [3, 11] (fun ov iv wr => ∃ k : Nat, k ≤ N ∧ iv = .int .i64 k ∧ OwnU wr w1.heap.size ov ((s.names.take k).filterMap (fun p => numP logW p.1)) ∧ Below w1.heap.size w1 wr ∧ Below w.heap.size w wr) (fun _ iv _ => N - (intOf iv).toNat)
  case atStart => exact ⟨0, Nat.zero_le _, rfl, World.ownsRow_nil _ _ _ 1, Below.refl _ _, hb1.out⟩
  case round =>
    obtain ⟨k, hk, rfl, ho, hbr, hbw⟩ := hrel
    have hzr := hbr.size
    by_cases hlt : k < N
    · have hlt' : (k : Int) < N := by omega
      have hkn : k < s.names.length := by omega
      have hp := List.getElem?_eq_getElem hkn
      have hpl := hnb.out _ (List.getElem_mem hkn)
      have hrx := hraw.out k hkn _ hp
      have hrk := hrl.out k
      generalize s.names[k] = p at *
      have hrd2 := hrd.out.below hbr
      obtain ⟨ad, u, rfl, had, hu, hcell⟩ := hrd2.at_ (k := k) (by omega)
      rw [List.getElem?_map, hp] at hu
      injection hu with hu
      subst hu
      obtain ⟨ad0, u0, e0, _, _, hc0⟩ := hrd2.at_ (k := 0) (by omega)
      injection e0 with e0
      subst e0
      obtain ⟨bb, oo, rfl⟩ := at_plain hc0
      rw [add_flat] at hcell
      have hbl : bb < wr.heap.size := by have : bb < w1.heap.size := had; omega
      have hnm := hnum.out wr (hG.out.below hbw hG.out.size) (bs p.1) (by rw [bs_size]; exact hpl)
      rw [bs_data] at hnm
      replace hnm : Calls Tryz.prog 58 #[.string ⟨#[108, 111, 103]⟩, .string (bs p.1)] wr fun e w' => e = .returned (numV (numP logW p.1)) ∧ Below wr.heap.size wr w' := hnm
      clear hc0 hrd2
      have ho' := ho
      rcases hq : numP logW p.1 with _ | u
      · rw [hq] at hnm hrx
        rw [Option.toList_none, List.append_nil] at hrx
        simp only [numV] at hnm
        replace hnm := Lib.hid hnm
        replace hrx := Lib.hid hrx
        replace hq := Lib.hid hq
        replace hp := Lib.hid hp
        go_wp2_with fail
        refine hnm.out.mono ?_
        rintro e w2 ⟨rfl, hb2⟩
        have hbr2 := hbr.trans (hb2.mono hzr)
        have hbw2 := hbw.trans (hb2.mono (by omega))
        have ho2 := ho.below hb2
        rw [← hrx.out] at ho2
        replace hbr2 := Lib.hid hbr2
        replace hbw2 := Lib.hid hbw2
        replace ho2 := Lib.hid ho2
        clear hb2
        go_wp2_with fail
        exact ⟨⟨k + 1, by omega, by go_num, ho2.out, hbr2.out, hbw2.out⟩, by simp [intOf]; omega⟩
      · rw [hq] at hnm hrx
        simp only [numV] at hnm
        rw [Option.toList_some] at hrx
        replace hnm := Lib.hid hnm
        replace hq := Lib.hid hq
        replace hp := Lib.hid hp
        generalize (s.names.take k).filterMap (fun p => numP logW p.1) = L at *
        replace hrx := Lib.hid hrx
        go_wp2_with fail
        refine hnm.out.mono ?_
        rintro e w2 ⟨rfl, hb2⟩
        have hbr2 := hbr.trans (hb2.mono hzr)
        have hbw2 := hbw.trans (hb2.mono (by omega))
        have ho2 := ho.below hb2
        have hz2' := hb2.size
        clear hb2
        replace hbr2 := Lib.hid hbr2
        replace hbw2 := Lib.hid hbw2
        go_wp2_with (at_builtin; refine wpList_append_any _ rfl (.tmp 21) (.tmp 23) _ rfl w1.heap.size 42 i0 _ 1 8 Tryz.underlying55 hi0 hz0 hz1 hz2 rfl (by omega) _ L.length (u64sV L) rfl (World.ownsRow.alloc ho2 _) (w2.heap.size + 1) (some ⟨w2.heap.size, 0, none⟩) 1 1 [.int .u64 (u : Nat)] rfl ?c0 ?c1 ?c2 ?c3 ?c4 ?_; rotate_left 5; intro v2 w3 ho3 hg3 hat3)
        case c0 => exact new_num _ _ _
        case c1 => intro x hx; simp at hx; subst hx; rfl
        case c2 => simp only [maxLen]; omega
        case c3 => omega
        case c4 => simp; omega
        have ho4 : OwnU w3 w1.heap.size v2 (L ++ [u]) := OwnU.snoc ho3
        rw [← hrx.out] at ho4
        have hbr4 : Below w1.heap.size w1 w3 := (hbr2.out.alloc (by have := hbr2.out.size; omega) _).grown hg3 (by simp; have := hbr2.out.size; omega) (fun j hj => (ho2.lt j hj).1)
        have hbw4 : Below w.heap.size w w3 := hb1.out.trans (hbr4.mono hz1')
        replace ho4 := Lib.hid ho4
        replace hbr4 := Lib.hid hbr4
        replace hbw4 := Lib.hid hbw4
        clear ho3 hg3 hat3 ho2
        go_wp2_with fail
        exact ⟨⟨k + 1, by omega, by go_num, ho4.out, hbr4.out, hbw4.out⟩, by simp [intOf]; omega⟩
    · obtain rfl : k = N := by omega
      have hrn := hrl.out k
      have hsrt := Lib.hid (Sort_any ho hs.out (by omega))
      generalize hL : (s.names.take k).filterMap (fun p => numP logW p.1) = L at ho hsrt
      replace hL := Lib.hid hL
      replace hbr := Lib.hid hbr
      replace hbw := Lib.hid hbw
      go_wp2_with fail
      refine hsrt.out.mono ?_
      rintro e w2 ⟨rfl, hb2⟩
      have ho2 := ho.below hb2
      have hbw2 := hbw.out.trans (hb2.mono (by have := hbw.out.size; omega))
      clear hb2
      go_wp2_with fail
      go_ret
      exact ⟨_, rfl, by rw [hL.out]; exact own_less ho2 hz1', hbw2⟩
/-- A batch in memory. -/
structure MB where
  b : BatE
  v : Value
def mbC (x : MB) : List Value := [.int .u64 (x.b.seq : Nat), x.v]
theorem mbC_len (x : MB) : (mbC x).length = 2 := rfl
def mbV (l : List MB) : List Value := l.flatMap mbC
theorem mbV_len (l : List MB) : (mbV l).length = l.length * 2 := flat_size mbC_len l
structure OwnM (w : World) (B : Nat) (v : Value) (l : List MB) : Prop where
  row : w.ownsRow B 53 2 v l.length (mbV l)
  ops : ∀ x ∈ l, OwnO w B x.v x.b.ops
theorem bat_info : (Tryz.prog.info? 53).map (fun i => (i.zero, i.size, i.bytes)) = some (some (.agg #[.int .u64 0, .slice none 0 0]), 2, 32) := by kernel_rfl
theorem OwnM.nil (w : World) (B : Nat) : OwnM w B (.slice none 0 0) [] := ⟨World.ownsRow_nil _ _ _ _, fun _ h => nomatch h⟩
theorem OwnM.below {w w' : World} {B : Nat} {v : Value} {l : List MB} (h : OwnM w B v l) (hb : Below w.heap.size w w') : OwnM w' B v l :=
  ⟨own_below2 h.row hb, fun x hx => (h.ops x hx).below hb⟩
theorem OwnM.form {w : World} {B : Nat} {v : Value} {l : List MB} (h : OwnM w B v l) : ∃ A cap, v = .slice A l.length cap := by
  rcases h.row.2 with ⟨rfl, e⟩ | ⟨g, cap, cur, rfl, _⟩
  · exact ⟨none, 0, by rw [e]⟩
  · exact ⟨_, cap, rfl⟩
/-- Only the variable's own block has turned. -/
theorem OwnM.far {w w' : World} {B ob t : Nat} {v : Value} {l : List MB} {cs : Array Value} (h : OwnM w B v l) (hob : Blk w ob t cs) (ht1 : t ≠ 53) (ht2 : t ≠ 60) (hk : KeptBut w w' (fun k => k = ob)) : OwnM w' B v l :=
  ⟨own_kept h.row hk (fun k hk' e => own_blk_ne h.row hob (Ne.symm ht1) (by rw [hk', e])), fun x hx => own_kept (h.ops x hx) hk (fun k hk' e => own_blk_ne (h.ops x hx) hob (Ne.symm ht2) (by rw [hk', e]))⟩
theorem new_bat (w : World) (t : TypeId) (x : MB) : Reads (w.alloc (.cells #[.int .u64 (x.b.seq : Nat), x.v] t)) (w.heap.size + 1) 2 (some ⟨w.heap.size, 0, none⟩) 1 (mbC x) :=
  ⟨rfl, fun _ => ⟨_, rfl, by simp, fun j u hu => by
    unfold mbC at hu
    rcases j with _ | _ | j
    · simp at hu; subst hu; simp [go_sem, Addr.add]
    · simp at hu; subst hu; simp [go_sem, Addr.add]
    · simp at hu⟩⟩
/-- Behind the append of a batch. -/
theorem bat_app {w W w6 : World} {B ob : Nat} {S : Nat → Prop} {v v2 : Value} {l : List MB} {x : MB} {o1 o2 : Obj} (ho : OwnM W B v l) (hob : Blk W ob 27 #[v]) (hx : OwnO W B x.v x.b.ops) (hk : KeptBut w W S) (hS : S ob) (hmv : ∀ k, v.ownBlock = some k → S k ∨ w.heap.size ≤ k)
    (ho6 : w6.ownsRow B 53 2 v2 (l.length + 1) (mbV l ++ mbC x)) (hg6 : ((W.alloc o1).alloc o2).grownBy w6 v.ownBlock) (hat : v2.ownBlock = v.ownBlock ∨ v2.ownBlock = some ((W.alloc o1).alloc o2).heap.size) :
    ∃ A2 c2, v2 = .slice A2 (l.length + 1) c2 ∧ w6.cell? ⟨ob, 0, none⟩ = some v ∧ w6.frozen? ⟨ob, 0, none⟩ = false ∧ ob < w6.heap.size ∧
      Hid (Blk (w6.setCell ⟨ob, 0, none⟩ (.slice A2 (l.length + 1) c2)) ob 27 #[.slice A2 (l.length + 1) c2] ∧ OwnM (w6.setCell ⟨ob, 0, none⟩ (.slice A2 (l.length + 1) c2)) B (.slice A2 (l.length + 1) c2) (l ++ [x]) ∧
        KeptBut w (w6.setCell ⟨ob, 0, none⟩ (.slice A2 (l.length + 1) c2)) S ∧ ∀ k, (Value.slice A2 (l.length + 1) c2).ownBlock = some k → S k ∨ w.heap.size ≤ k) := by
  have b1 : Below W.heap.size W ((W.alloc o1).alloc o2) := ((Below.refl _ _).alloc (Nat.le_refl _) _).alloc (by simp) _
  have hob1 := hob.below b1 hob.lt
  have hrow1 := own_below2 ho.row b1
  have hob6 := hob1.grown hg6 (fun e => own_blk_ne hrow1 hob1 (by decide) e.symm)
  have hops6 : ∀ y ∈ l ++ [x], OwnO w6 B y.v y.b.ops := fun y hy => by
    have hy1 : OwnO ((W.alloc o1).alloc o2) B y.v y.b.ops := by
      rcases List.mem_append.1 hy with hy | hy
      · exact (ho.ops y hy).below b1
      · rw [List.mem_singleton.1 hy]; exact hx.below b1
    exact own_block hy1 fun k hk => hg6.block k (own_lt hy1 k hk).2 (fun e => own_ne_own hy1 hrow1 (by decide) k hk e.symm)
  have hk6 : KeptBut w w6 S := by
    have h1 : KeptBut w ((W.alloc o1).alloc o2) S := hk.then_below b1
    refine ⟨hg6.os.trans h1.os, hg6.tape.trans h1.tape, hg6.output.trans h1.output, Nat.le_trans h1.size hg6.size, fun k hk hs => (hg6.block k (by have := h1.size; omega) (fun e => ?_)).trans (h1.block k hk hs)⟩
    rcases hmv k e.symm with q | q
    · exact hs q
    · omega
  have hmv2 : ∀ k, v2.ownBlock = some k → S k ∨ w.heap.size ≤ k := fun k hk2 => by
    rcases hat with e | e
    · exact hmv k (by rw [← e]; exact hk2)
    · rw [e] at hk2
      injection hk2 with hk2
      have := hk.size
      right
      simp at hk2
      omega
  have ho7 : OwnM w6 B v2 (l ++ [x]) := ⟨by
    unfold mbV
    rw [List.length_append, List.flatMap_append]
    simpa [mbV] using ho6, hops6⟩
  obtain ⟨A2, c2, rfl⟩ := ho7.form
  rw [List.length_append, List.length_singleton] at *
  have hset : KeptBut w6 (w6.setCell ⟨ob, 0, none⟩ (.slice A2 (l.length + 1) c2)) (fun k => k = ob) := (KeptBut.refl _ _).then_set rfl
  exact ⟨A2, c2, rfl, hob6.cell 0, hob6.frozen 0, hob6.lt, Lib.hid ⟨hob6.set_ 0 _, ho7.far hob6 (by decide) (by decide) hset, hk6.then_set hS, hmv2⟩⟩
theorem strsV_flat : ∀ l : List (List UInt8), strsV l = l.flatMap fun r => [Value.string (bs r)]
  | [] => rfl
  | a :: l => by
    have := strsV_flat l
    unfold strsV at *
    rw [List.map_cons, this]
    rfl
theorem oneR_len (t : List UInt8) : ∀ (n : Nat) (acc : List UInt8) (size : Nat) (r : List UInt8) (z : Nat), oneR t n acc size = some (r, z) → r.length ≤ 524288 := by
  generalize hk : t.length = k
  induction k using Nat.strongRecOn generalizing t with
  | ind k ih =>
    intro n acc size r z h
    unfold oneR at h
    split at h
    · cases h
    · rename_i h1
      split at h
      · cases h
      · split at h
        · cases h
        · split at h
          · rename_i h2
            injection h with h
            injection h with h3 h4
            rw [← h3]
            exact h2.2
          · exact ih (t.drop 32).length (by rw [List.length_drop]; omega) _ rfl _ _ _ _ _ h
theorem readF_len (t : List UInt8) : ∀ r ∈ (readF t).1, r.length ≤ 524288 := by
  generalize hk : t.length = k
  induction k using Nat.strongRecOn generalizing t with
  | ind k ih =>
    intro r hr
    rcases ho : oneR t 0 [] 0 with _ | ⟨r0, z⟩
    · rw [readF_none ho] at hr
      cases hr
    · have hz := oneR_size t 0 [] 0 r0 z ho
      rw [readF_some ho] at hr
      rcases List.mem_cons.1 hr with hr | hr
      · rw [hr]; exact oneR_len t 0 [] 0 r0 z ho
      · exact ih (t.drop z).length (by rw [List.length_drop]; omega) _ rfl r hr
set_option maxRecDepth 100000 in
set_option maxHeartbeats 4000000 in
theorem rep2_any {X : Nat → Prop} {w : World} {d : Nat} {s : Dsk} {m : Nat} (h : Dx X w d s) (hT : TabAt w) (g : s.Good m) (hm : m < 1000000000) (name : ByteArray) (hnm : name.size ≤ 1048576) {data : List UInt8} (hrd : s.read name.data.toList = (data, 0)) (hdl : data.length ≤ 1048576)
    {dv ob B : Nat} {v : Value} {l : List MB} (hdv : Blk w dv 25 #[.pointer (some ⟨d, 0, none⟩)]) (hob : Blk w ob 27 #[v]) (ho : OwnM w B v l) (hB : B ≤ w.heap.size) (hll : l.length ≤ 1073741824) :
    Calls Tryz.prog 45 #[.string name, .pointer (some ⟨dv, 0, none⟩), .pointer (some ⟨ob, 0, none⟩)] w fun e w' => e = .returned (.int .i64 0) ∧ ∃ v' l', Blk w' ob 27 #[v'] ∧ OwnM w' B v' (l ++ l') ∧ l'.map (·.b) = batL data ∧ KeptBut w w' (fun k => k = ob ∨ v.ownBlock = some k) := by
  obtain ⟨i0, hi0, hz0, hz1, hz2⟩ := info_parts bat_info
  have hread := Read_dx h g (by omega) name (by omega)
  rw [hrd] at hread
  have hfr := FRead_any hT (bs data) (by rw [bs_size]; omega)
  rw [bs_data] at hfr
  have hrs := readF_size data
  have hrec := readF_len data
  have hbl : batL data = batsL (readF data).1 := rfl
  obtain ⟨R, hR⟩ : ∃ R, readF data = R := ⟨_, rfl⟩
  rw [hR] at hfr hrs hbl hrec
  obtain ⟨rs, wh⟩ := R
  simp only at hfr hrs hbl hrec
  have c0 : w.cell? ⟨dv, 0, none⟩ = some (.pointer (some ⟨d, 0, none⟩)) := hdv.cell 0
  have hdvl := hdv.lt
  have hobl := hob.lt
  have hrn : rs.length ≤ 32768 := by omega
  have hrow2 := ho.row
  replace hread := Lib.hid hread
  replace hfr := Lib.hid hfr
  replace hR := Lib.hid hR
  replace hbl := Lib.hid hbl
  replace hT := Lib.hid hT
  replace hrec := Lib.hid hrec
  clear hrs
  go_enter Tryz.func45, Tryz.ntmps45
  go_wp2_with fail
  refine hread.out.mono ?_
  rintro e w' ⟨rfl, rfl⟩
  go_wp2_with fail
  refine hfr.out.mono ?_
  rintro e w1 ⟨rv, rfl, hrow, hb1⟩
  obtain ⟨LA, Lc, hform⟩ : ∃ A c, rv = .slice A rs.length c := by
    rcases hrow.2 with ⟨rfl, e⟩ | ⟨gg, cap, cur, rfl, _⟩
    · exact ⟨none, 0, by rw [e]⟩
    · exact ⟨_, cap, rfl⟩
  subst hform
  have hz1' := hb1.size
  have hob1 := hob.below hb1 hobl
  have ho1 := ho.below hb1
  have hk1 : KeptBut w w1 (fun k => k = ob ∨ v.ownBlock = some k) := KeptBut.of_below hb1
  obtain ⟨N, hN⟩ : ∃ N, rs.length = N := ⟨_, rfl⟩
  have hrdl : ∀ k, k < N → ∃ (r : List UInt8) (b o : Nat), rs[k]? = some r ∧ LA = some ⟨b, o, none⟩ ∧ b < w1.heap.size ∧ w1.cell? ⟨b, o + k, none⟩ = some (.string (bs r)) ∧ b ≠ ob ∧ v.ownBlock ≠ some b := by
    intro k hk
    have hkl : k < rs.length := by omega
    have hf1 : ∀ r : List UInt8, ([Value.string (bs r)] : List Value).length = 1 := fun _ => rfl
    have e1 := strsV_flat rs
    have hrd1 := Reads.of_own hrow
    rw [e1] at hrd1
    obtain ⟨b, o, e2, hb, hc⟩ := row_at hf1 (by decide) hrd1 (List.getElem?_eq_getElem hkl)
    have hob2 : (Value.slice LA rs.length Lc).ownBlock = some b := by
      rcases hrow.2 with ⟨e3, _⟩ | ⟨gg, cap, cur, e3, _⟩
      · injection e3 with e3 _ _
        rw [e2] at e3
        cases e3
      · rw [e3]
        injection e3 with e3 _ _
        rw [e2] at e3
        injection e3 with e3
        injection e3 with e3 _
        rw [e3]
        rfl
    have hge := (own_lt hrow b hob2).1
    have hc0 := hc 0 _ rfl
    rw [Nat.mul_one, Nat.add_zero] at hc0
    refine ⟨rs[k], b, o, List.getElem?_eq_getElem hkl, e2, hb, hc0, by omega, fun e => ?_⟩
    have := (own_lt hrow2 b e).2
    omega
  have hrowb : ∀ k, k < N → ∀ (b o : Nat), LA = some ⟨b, o, none⟩ → w.heap.size ≤ b := by
    intro k hk b o e2
    rcases hrow.2 with ⟨e3, _⟩ | ⟨gg, cap, cur, e3, hge, _⟩
    · injection e3 with e3 _ _
      rw [e2] at e3
      cases e3
    · injection e3 with e3 _ _
      rw [e2] at e3
      injection e3 with e3
      injection e3 with e3 _
      omega
  rw [hN]
  clear hrow
  replace hrdl := Lib.hid hrdl
  replace hb1 := Lib.hid hb1
  replace hk1 := Lib.hid hk1
  clear hrow2 c0
  go_wp2_with fail
  go_loopw [26] (fun iv wr => ∃ (k : Nat) (v' : Value) (l' : List MB), k ≤ N ∧ iv = .int .i64 k ∧ Blk wr ob 27 #[v'] ∧ OwnM wr B v' (l ++ l') ∧ l'.map (·.b) ++ batsL (rs.drop k) = batsL rs ∧ l'.length ≤ k ∧ KeptBut w1 wr (fun k => k = ob ∨ v.ownBlock = some k) ∧ ∀ k, v'.ownBlock = some k → (k = ob ∨ v.ownBlock = some k) ∨ w1.heap.size ≤ k) (fun iv _ => N - (intOf iv).toNat)
  case atStart => exact ⟨0, v, [], Nat.zero_le _, rfl, hob1, by rw [List.append_nil]; exact ho1, rfl, Nat.zero_le _, KeptBut.refl _ _, fun k hk => .inl (.inr hk)⟩
  case round =>
    obtain ⟨k, v', l', hk, rfl, hbk, hm2, hbt, hlk, hkp, hmv⟩ := hrel
    have hzr := hkp.size
    have hbkl := hbk.lt
    by_cases hlt : k < N
    · have hlt' : (k : Int) < N := by omega
      obtain ⟨r, b, o, hrk, rfl, hbl1, hcell, hne1, hne2⟩ := hrdl.out k hlt
      have q0 := (hkp.cell ⟨b, o + k, none⟩ hbl1 (by rintro (e | e); exact hne1 e; exact hne2 e)).trans hcell
      have hblr : b < wr.heap.size := by omega
      have hrl := hrec.out r (List.mem_of_getElem? hrk)
      have hkl : k < rs.length := by omega
      have hdrop : rs.drop k = r :: rs.drop (k + 1) := by
        rw [List.drop_eq_getElem_cons hkl]
        obtain ⟨_, rfl⟩ := List.getElem?_eq_some_iff.1 hrk
        rfl
      have hdec := Decode_any (bs r) wr (by rw [bs_size]; omega)
      rw [bs_data] at hdec
      have hbz : B ≤ wr.heap.size := by omega
      rcases hd : decB r with _ | b2
      · have hst : batsL (rs.drop k) = [] := by
          rw [hdrop]
          unfold batsL
          rw [hd]
        rw [hst, List.append_nil] at hbt
        rw [hd] at hdec
        simp only [DecV] at hdec
        replace hdec := Lib.hid hdec
        replace hbt := Lib.hid hbt
        replace hrk := Lib.hid hrk
        replace hdrop := Lib.hid hdrop
        replace hst := Lib.hid hst
        replace hd := Lib.hid hd
        go_wp2_with fail
        refine hdec.out.mono ?_
        rintro e w2 ⟨rfl, hb2⟩
        have hbk2 := (hbk.below hb2 hbkl).alloc (.cells #[.int .u64 0, .slice none 0 0] 53)
        have hm3 := (hm2.below hb2).below ((Below.refl _ _).alloc (Nat.le_refl _) (.cells #[.int .u64 0, .slice none 0 0] 53))
        have hkp2 := (hkp.then_below hb2).then_below ((Below.refl _ _).alloc (Nat.le_refl _) (.cells #[.int .u64 0, .slice none 0 0] 53))
        have hkf := (hk1.out.trans hkp2 (fun _ _ h => h))
        replace hbk2 := Lib.hid hbk2
        replace hm3 := Lib.hid hm3
        replace hkf := Lib.hid hkf
        clear hb2 hkp2
        go_wp2_with fail
        go_ret
        exact ⟨rfl, v', l', hbk2.out, hm3.out, by rw [hbl.out]; exact hbt.out, hkf.out⟩
      · have hst : batsL (rs.drop k) = b2 :: batsL (rs.drop (k + 1)) := by
          rw [hdrop]
          conv => lhs; unfold batsL
          rw [hd]
        rw [hst] at hbt
        rw [hd] at hdec
        simp only [DecV] at hdec
        replace hdec := Lib.hid hdec
        replace hrk := Lib.hid hrk
        replace hdrop := Lib.hid hdrop
        replace hst := Lib.hid hst
        replace hd := Lib.hid hd
        replace hbt := Lib.hid hbt
        have hlen : (l ++ l').length ≤ 2147483648 := by rw [List.length_append]; omega
        obtain ⟨Av, cv, hvf⟩ := hm2.form
        subst hvf
        have hx0 : ∀ Y, Y = l ++ l' → True := fun _ _ => trivial
        obtain ⟨LL, hLL⟩ : ∃ LL, LL = l ++ l' := ⟨_, rfl⟩
        rw [← hLL] at hm2 hbk hmv hlen
        clear hx0
        replace hLL := Lib.hid hLL
        go_wp2_with fail
        refine hdec.out.mono ?_
        rintro e w2 ⟨⟨bv, rfl, hbo⟩, hb2⟩
        have hbk2 := hbk.below hb2 hbkl
        have hm3 := hm2.below hb2
        have hkp2 := hkp.then_below hb2
        have u0 : w2.cell? ⟨ob, 0, none⟩ = some (.slice Av LL.length cv) := hbk2.cell 0
        have ul := hbk2.lt
        obtain ⟨Bv, Bc, hbf⟩ := hbo.form
        subst hbf
        have hbo2 : OwnO w2 B (MB.mk b2 (.slice Bv b2.ops.length Bc)).v (MB.mk b2 (.slice Bv b2.ops.length Bc)).b.ops := own_less hbo hbz
        have hrow3 := own_below2 hm3.row (((Below.refl _ _).alloc (Nat.le_refl _) (.cells #[.int .u64 (b2.seq : Nat), .slice Bv b2.ops.length Bc] 53)).alloc (by simp) (.cells #[.int .u64 (b2.seq : Nat), .slice Bv b2.ops.length Bc] 53))
        clear hb2
        have hz2' := hkp2.size
        have hob1' : ob < w1.heap.size := by have := hb1.out.size; omega
        replace hm3 := Lib.hid hm3
        replace hbk2 := Lib.hid hbk2
        replace hkp2 := Lib.hid hkp2
        replace hbo2 := Lib.hid hbo2
        replace hmv := Lib.hid hmv
        go_wp2_with (at_builtin; refine wpList_append_any _ rfl (.tmp 37) (.tmp 39) _ rfl B 53 i0 _ 2 32 Tryz.underlying27 hi0 hz0 hz1 hz2 rfl (by omega) _ LL.length (mbV LL) rfl hrow3 (w2.heap.size + 1 + 1) (some ⟨w2.heap.size + 1, 0, none⟩) 1 1 (mbC ⟨b2, .slice Bv b2.ops.length Bc⟩) rfl ?c0 ?c1 ?c2 ?c3 ?c4 ?_; rotate_left 5; intro v2 w6 ho6 hg6 hat6; obtain ⟨A2, c2, rfl, u1, f1, ul6, hall⟩ := bat_app (x := ⟨b2, .slice Bv b2.ops.length Bc⟩) (v := .slice Av LL.length cv) hm3.out hbk2.out hbo2.out hkp2.out (.inl rfl) hmv.out ho6 hg6 hat6; clear ho6 hg6 hat6)
        case c0 => have := new_bat (w2.alloc (.cells #[.int .u64 (b2.seq : Nat), .slice Bv b2.ops.length Bc] 53)) 53 ⟨b2, .slice Bv b2.ops.length Bc⟩; simpa using this
        case c1 => intro u hu; simp [mbC] at hu; rcases hu with rfl | rfl <;> rfl
        case c2 => simp only [maxLen]; omega
        case c3 => omega
        case c4 => simp; omega
        obtain ⟨hg8, ho8, hk8, hmv8⟩ := hall.out
        exact ⟨⟨k + 1, _, l' ++ [⟨b2, .slice Bv b2.ops.length Bc⟩], by omega, by go_num, hg8, by rw [← List.append_assoc, ← hLL.out]; exact ho8, by rw [List.map_append, List.append_assoc]; exact hbt.out, by rw [List.length_append, List.length_singleton]; omega, hk8, hmv8⟩, by simp [intOf]; omega⟩
    · obtain rfl : k = N := by omega
      have hd0 : rs.drop k = [] := List.drop_of_length_le (by omega)
      rw [hd0, show batsL [] = [] from rfl, List.append_nil] at hbt
      have hkf := hk1.out.trans hkp (fun _ _ h => h)
      replace hbt := Lib.hid hbt
      replace hkf := Lib.hid hkf
      replace hbk := Lib.hid hbk
      replace hm2 := Lib.hid hm2
      replace hd0 := Lib.hid hd0
      go_wp2_with fail
      go_ret
      exact ⟨rfl, v', l', hbk.out, hm2.out, by rw [hbl.out]; exact hbt.out, hkf.out⟩
end Go.Proofs.YtdbpfemkjfogoaaGreatDoor
