/- LeaseApart returns true for every lease, time, texts and number. -/
import Derived.Test.YticnnmoheijjdaaL4
import Derived.Test.YticnnmoheijjdaaK
import Derived.Test.YticnnmoheijjdaaQ
import Derived.Deep.DeepCutAuto
import Derived.LoopTactic
import Derived.Lib.Hide
namespace Go.Proofs.Yticnnmoheijjdaa
open Go.RowKit Go.ChangeShapes Go.WideShapes Go.ChangeAt Go.Joins
set_option linter.unusedVariables false

theorem does_val (how : Int) (o : ByteArray) (u : Int) (had : Bool) (now : Int) (owner dst : ByteArray) (d wait : Int) (r : LR) (hr : doesL how o u had now owner dst d = r) (w : World) (g1 : 1 ≤ how) (g4 : how ≤ 4) (h1 : 0 ≤ now) (h2 : now ≤ 18446744073709551615) (h3 : 0 ≤ d) (h4 : d ≤ 18446744073709551615) :
    Calls Try.prog 15 #[.agg #[.string o, .int .u64 u], .bool had, .int .u64 now, .agg #[.int .i64 how, .string owner, .string dst, .int .u64 d, .int .u64 wait]] w fun e w' => e = .returned (RV r) ∧ Below w.heap.size w w' :=
  hr ▸ does_any how o u had now owner dst d wait w g1 g4 h1 h2 h3 h4
theorem Runs_val (o : ByteArray) (u now : Int) (r : Bool) (h : decide (now < u) = r) (w : World) :
    Calls Try.prog 9 #[.agg #[.string o, .int .u64 u], .int .u64 now] w fun e w' => e = .returned (.bool r) ∧ Below w.heap.size w w' := h ▸ Runs_any o u now w

/-- What holds of the two answers: 'r': as of a lease that is there, 's': as of none. -/
theorem apart_facts (how : Int) (o : ByteArray) (u now : Int) (owner dst : ByteArray) (d : Int) (g1 : 1 ≤ how) (g4 : how ≤ 4) :
    (u ≤ now → doesL how o u true now owner dst d = doesL how o u false now owner dst d) ∧
    (1 < how → ((doesL how o u false now owner dst d).e == 0) = false) ∧
    (how = 1 → now < u → ((doesL how o u false now owner dst d).e == 0) = true → ((doesL how o u true now owner dst d).e == 22) = true) ∧
    (1 < how → now < u → (o.toList == owner.toList) = false → ((doesL how o u true now owner dst d).e == 24) = true ∨ ((doesL how o u true now owner dst d).e == 1) = true) := by
  have e1 : (1 : Int) ≠ 2 := by omega
  obtain rfl | rfl | rfl | rfl : how = 1 ∨ how = 2 ∨ how = 3 ∨ how = 4 := by omega
  all_goals refine ⟨fun h => ?_, fun h => ?_, fun h1 h2 h3 => ?_, fun h1 h2 h3 => ?_⟩
  all_goals first | (exfalso; omega) | skip
  all_goals first | have hn : decide (now < u) = false := (by simp; omega) | have hn : decide (now < u) = true := (by simp; omega) | skip
  all_goals by_cases ho : ownerOk owner = true
  all_goals by_cases hd : ownerOk dst = true
  all_goals by_cases h0 : d = 0
  all_goals by_cases h00 : 0 < d
  all_goals simp_all [doesL, takeL, renewL, releaseL, moveL, ownE, noL, toldL]

/-- The ways through a round. -/
theorem apart_ways (n : Nat) (o : ByteArray) (u now : Int) (owner dst : ByteArray) (d : Int) (g1 : 1 ≤ n) (g4 : n ≤ 4) :
    ∃ r s : LR, doesL n o u true now owner dst d = r ∧ doesL n o u false now owner dst d = s ∧
      ((u ≤ now ∧ decide (now < u) = false ∧ r = s ∧ (n = 1 ∨ 1 < n ∧ (s.e == 0) = false)) ∨
       (now < u ∧ decide (now < u) = true ∧ n = 1 ∧ ((s.e == 0) = false ∨ (s.e == 0) = true ∧ (r.e == 22) = true)) ∨
       (now < u ∧ decide (now < u) = true ∧ 1 < n ∧ (s.e == 0) = false ∧ ((o.toList == owner.toList) = true ∨ (o.toList == owner.toList) = false ∧ ((r.e == 24) = true ∨ (r.e == 24) = false ∧ (r.e == 1) = true)))) := by
  obtain ⟨h1, h2, h3, h4⟩ := apart_facts n o u now owner dst d (by omega) (by omega)
  refine ⟨_, _, rfl, rfl, ?_⟩
  by_cases hr : now < u
  · by_cases hn : n = 1
    · refine .inr (.inl ⟨hr, by simpa using hr, hn, ?_⟩)
      cases h0 : ((doesL n o u false now owner dst d).e == 0)
      · exact .inl rfl
      · exact .inr ⟨rfl, h3 (by omega) hr h0⟩
    · refine .inr (.inr ⟨hr, by simpa using hr, by omega, h2 (by omega), ?_⟩)
      cases ho : (o.toList == owner.toList)
      · refine .inr ⟨rfl, ?_⟩
        cases h5 : ((doesL n o u true now owner dst d).e == 24)
        · rcases h4 (by omega) hr ho with h6 | h6
          · rw [h5] at h6; cases h6
          · exact .inr ⟨rfl, h6⟩
        · exact .inl rfl
      · exact .inl rfl
  · refine .inl ⟨by omega, by simp; omega, h1 (by omega), ?_⟩
    by_cases hn : n = 1
    · exact .inl hn
    · exact .inr ⟨by omega, h2 (by omega)⟩

set_option maxRecDepth 100000 in
set_option maxHeartbeats 8000000 in
theorem apart_walk (o : ByteArray) (u : Int) (now : Int) (owner dst : ByteArray) (d : Int) (w : World) (n0 : 0 ≤ now) (n1 : now ≤ 18446744073709551615) (d0 : 0 ≤ d) (d1 : d ≤ 18446744073709551615) (_so : owner.size ≤ maxLen) (_st : dst.size ≤ maxLen) :
    Calls Try.prog 7 #[.agg #[.string o, .int .u64 u], .int .u64 now, .string owner, .string dst, .int .u64 d] w fun e w' => e = .returned (.bool true) ∧ Below w.heap.size w w' := by
  unfold maxLen at _so _st
  go_enter Try.func7, Try.ntmps7
  go_upto_if 21 with fail
  go_cut [2] (fun s3 wx => ∃ p : ByteArray, s3 = .string p ∧ w.alloc (Obj.cells #[Value.string o, Value.int IntKind.u64 u] 24) = wx)
  case first =>
    go_wp2
    all_goals go_meet
    all_goals exact ⟨_, rfl, rfl⟩
  obtain ⟨p, rfl, rfl⟩ := hcut
  go_upto_if 26 with fail
  go_cut [3] (fun s4 wx => ∃ q : ByteArray, s4 = .string q ∧ w.alloc (Obj.cells #[Value.string o, Value.int IntKind.u64 u] 24) = wx)
  case first =>
    go_wp2
    all_goals go_meet
    all_goals exact ⟨_, rfl, rfl⟩
  obtain ⟨q, rfl, rfl⟩ := hcut
  go_wp2_with fail
  go_loopw [11] (fun k wr => ∃ n : Nat, 1 ≤ n ∧ n ≤ 5 ∧ k = .int .i64 n ∧ Below (w.heap.size + 1) (w.alloc (Obj.cells #[Value.string o, Value.int IntKind.u64 u] 24)) wr) (fun k _ => 5 - (intOf k).toNat)
  case atStart => exact ⟨1, by omega, by omega, rfl, Below.refl _ _⟩
  case round =>
    obtain ⟨n, hn1, hn5, rfl, hb0⟩ := hrel
    have z0 := hb0.size
    simp at z0
    have z0_0 : w.heap.size < wr.heap.size := by omega
    have c0_0 := fun o => hb0.cell (p := ⟨w.heap.size, o, none⟩) (by simp)
    by_cases hlt : n < 5
    · obtain ⟨r, s, hr, hs, hways⟩ := apart_ways n o u now p q d hn1 (by omega)
      replace hr := Lib.hid hr
      replace hs := Lib.hid hs
      rcases hways with ⟨k1, k2, rfl, rfl | ⟨k3, k4⟩⟩ | ⟨k1, k2, rfl, k3 | ⟨k3, k4⟩⟩ | ⟨k1, k2, k3, k4, k5 | ⟨k5, k6 | ⟨k6, k7⟩⟩⟩
      all_goals replace k2 := Lib.hid k2
      all_goals
        go_wp2_with fail
        go_at_call 15
        refine (does_val _ _ _ _ _ _ _ _ _ _ hr.out _ (by omega) (by omega) n0 n1 d0 d1).mono ?_
        rintro e w1 ⟨rfl, hb1⟩
        obtain ⟨hc1, hf1⟩ := bcell hb1
        have z1 := hb1.size
        try simp at z1
        have z1_0 : w.heap.size < w1.heap.size := (by first | omega | (simp at z1; omega))
        have c1_0 := fun o => hc1 (w.heap.size) o (by first | omega | (simp; done) | (simp; omega))
        have d1_0 := fun o => hf1 (w.heap.size) o (by first | omega | (simp; done) | (simp; omega))
        have z1_1 : wr.heap.size < w1.heap.size := (by first | omega | (simp at z1; omega))
        have c1_1 := fun o => hc1 (wr.heap.size) o (by first | omega | (simp; done) | (simp; omega))
        have d1_1 := fun o => hf1 (wr.heap.size) o (by first | omega | (simp; done) | (simp; omega))
        clear hc1 hf1
        go_wp2_with fail
        go_at_call 15
        refine (does_val _ _ _ _ _ _ _ _ _ _ hs.out _ (by omega) (by omega) n0 n1 d0 d1).mono ?_
        rintro e w2 ⟨rfl, hb2⟩
        obtain ⟨hc2, hf2⟩ := bcell hb2
        have z2 := hb2.size
        try simp at z2
        have z2_0 : w.heap.size < w2.heap.size := (by first | omega | (simp at z2; omega))
        have c2_0 := fun o => hc2 (w.heap.size) o (by first | omega | (simp; done) | (simp; omega))
        have d2_0 := fun o => hf2 (w.heap.size) o (by first | omega | (simp; done) | (simp; omega))
        have z2_1 : wr.heap.size < w2.heap.size := (by first | omega | (simp at z2; omega))
        have c2_1 := fun o => hc2 (wr.heap.size) o (by first | omega | (simp; done) | (simp; omega))
        have d2_1 := fun o => hf2 (wr.heap.size) o (by first | omega | (simp; done) | (simp; omega))
        have z2_2 : w1.heap.size < w2.heap.size := (by first | omega | (simp at z2; omega))
        have c2_2 := fun o => hc2 (w1.heap.size) o (by first | omega | (simp; done) | (simp; omega))
        have d2_2 := fun o => hf2 (w1.heap.size) o (by first | omega | (simp; done) | (simp; omega))
        have z2_3 : w1.heap.size + 1 < w2.heap.size := (by first | omega | (simp at z2; omega))
        have c2_3 := fun o => hc2 (w1.heap.size + 1) o (by first | omega | (simp; done) | (simp; omega))
        have d2_3 := fun o => hf2 (w1.heap.size + 1) o (by first | omega | (simp; done) | (simp; omega))
        clear hc2 hf2
      all_goals go_wp2_with ((go_at_call 9; refine (Runs_val _ _ _ _ k2.out _).mono ?_; rintro e w' ⟨rfl, hb⟩; obtain ⟨hc, hf⟩ := bcell hb; have hz := hb.size; have c0 := fun o => hc (w.heap.size) o (by first | omega | (simp; done) | (simp; omega)); have d0 := fun o => hf (w.heap.size) o (by first | omega | (simp; done) | (simp; omega)); have hz0 : w.heap.size < w'.heap.size := (by first | omega | (simp at hz; omega)); have c1 := fun o => hc (w1.heap.size) o (by first | omega | (simp; done) | (simp; omega)); have d1 := fun o => hf (w1.heap.size) o (by first | omega | (simp; done) | (simp; omega)); have hz1 : w1.heap.size < w'.heap.size := (by first | omega | (simp at hz; omega)); have c2 := fun o => hc (w1.heap.size + 1) o (by first | omega | (simp; done) | (simp; omega)); have d2 := fun o => hf (w1.heap.size + 1) o (by first | omega | (simp; done) | (simp; omega)); have hz2 : w1.heap.size + 1 < w'.heap.size := (by first | omega | (simp at hz; omega)); have c3 := fun o => hc (w2.heap.size) o (by first | omega | (simp; done) | (simp; omega)); have d3 := fun o => hf (w2.heap.size) o (by first | omega | (simp; done) | (simp; omega)); have hz3 : w2.heap.size < w'.heap.size := (by first | omega | (simp at hz; omega)); have c4 := fun o => hc (w2.heap.size + 1) o (by first | omega | (simp; done) | (simp; omega)); have d4 := fun o => hf (w2.heap.size + 1) o (by first | omega | (simp; done) | (simp; omega)); have hz4 : w2.heap.size + 1 < w'.heap.size := (by first | omega | (simp at hz; omega)); have c5 := fun o => hc (wr.heap.size) o (by first | omega | (simp; done) | (simp; omega)); have d5 := fun o => hf (wr.heap.size) o (by first | omega | (simp; done) | (simp; omega)); have hz5 : wr.heap.size < w'.heap.size := (by first | omega | (simp at hz; omega)); clear hc hf))
      all_goals first | exact ⟨⟨2, by omega, by omega, rfl, (by repeat' first | (with_reducible exact Below.refl _ _) | (with_reducible refine Below.setCell ?_ ?_ _) | (with_reducible refine Below.alloc ?_ ?_ _) | (with_reducible refine Below.drew ?_) | (with_reducible refine Below.trans ?_ (Below.mono (by assumption) ?_)) | omega | (simp; done) | (simp; omega))⟩, by simp [intOf]⟩ | exact ⟨⟨n + 1, by omega, by omega, by go_num, (by repeat' first | (with_reducible exact Below.refl _ _) | (with_reducible refine Below.setCell ?_ ?_ _) | (with_reducible refine Below.alloc ?_ ?_ _) | (with_reducible refine Below.drew ?_) | (with_reducible refine Below.trans ?_ (Below.mono (by assumption) ?_)) | omega | (simp; done) | (simp; omega))⟩, by simp [intOf]; omega⟩ | (exfalso; simp_all; done)
    · have hn : n = 5 := by omega
      subst hn
      go_wp2_with ((go_at_call 10; refine (awake_any _).mono ?_; rintro e w' ⟨rfl, hb⟩; obtain ⟨hc, hf⟩ := bcell hb; have hz := hb.size; have c0 := fun o => hc (w.heap.size) o (by first | omega | (simp; done) | (simp; omega)); have d0 := fun o => hf (w.heap.size) o (by first | omega | (simp; done) | (simp; omega)); have hz0 : w.heap.size < w'.heap.size := (by first | omega | (simp at hz; omega)); clear hc hf))
      go_ret
      exact ⟨rfl, (by repeat' first | (with_reducible exact Below.refl _ _) | (with_reducible refine Below.setCell ?_ ?_ _) | (with_reducible refine Below.alloc ?_ ?_ _) | (with_reducible refine Below.drew ?_) | (with_reducible refine Below.trans ?_ (Below.mono (by assumption) ?_)) | omega | (simp; done) | (simp; omega))⟩
end Go.Proofs.Yticnnmoheijjdaa
