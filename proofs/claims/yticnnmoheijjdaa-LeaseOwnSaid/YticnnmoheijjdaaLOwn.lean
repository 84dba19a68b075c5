/- LeaseOwn returns true for every row of acts. -/
import Derived.Test.YticnnmoheijjdaaLActs
namespace Go.Proofs.Yticnnmoheijjdaa
open Go.RowKit Go.ChangeShapes Go.WideShapes Go.ChangeAt Go.Joins
set_option linter.unusedVariables false
set_option linter.unusedSimpArgs false

theorem bytes_eq {a b : ByteArray} (h : (a.toList == b.toList) = true) : a = b := by
  have h' : a.toList = b.toList := by simpa using h
  rw [ByteArray.toList_eq, ByteArray.toList_eq] at h'
  cases a; cases b
  simpa using h'

theorem does_val (how : Int) (o : ByteArray) (u : Int) (had : Bool) (now : Int) (owner dst : ByteArray) (d wait : Int) (r : LR) (hr : doesL how o u had now owner dst d = r) (w : World) (g1 : 1 ≤ how) (g4 : how ≤ 4) (h1 : 0 ≤ now) (h2 : now ≤ 18446744073709551615) (h3 : 0 ≤ d) (h4 : d ≤ 18446744073709551615) :
    Calls Try.prog 15 #[.agg #[.string o, .int .u64 u], .bool had, .int .u64 now, .agg #[.int .i64 how, .string owner, .string dst, .int .u64 d, .int .u64 wait]] w fun e w' => e = .returned (RV r) ∧ Below w.heap.size w w' :=
  hr ▸ does_any how o u had now owner dst d wait w g1 g4 h1 h2 h3 h4
theorem Runs_val (o : ByteArray) (u now : Int) (r : Bool) (h : decide (now < u) = r) (w : World) :
    Calls Try.prog 9 #[.agg #[.string o, .int .u64 u], .int .u64 now] w fun e w' => e = .returned (.bool r) ∧ Below w.heap.size w w' := h ▸ Runs_any o u now w

theorem plus_facts (now d : Int) (h1 : 0 ≤ now) (h2 : now ≤ 18446744073709551615) (h3 : 0 ≤ d) : now ≤ plusI now d ∧ plusI now d ≤ 18446744073709551615 ∧ (0 < d → now < plusI now d ∨ now = 18446744073709551615) := by
  unfold plusI; split <;> omega

theorem ownE_cases (o : ByteArray) (u : Int) (had : Bool) (now : Int) (owner : ByteArray) (right : Bool) :
    (ownE o u had now owner right != 0) = true ∨ (ownE o u had now owner right = 0 ∧ ownerOk owner = true ∧ right = true ∧ had = true ∧ decide (now < u) = true ∧ o = owner) := by
  unfold ownE
  split
  · exact .inl (by decide)
  · split
    · exact .inl (by decide)
    · split
      · exact .inl (by decide)
      · rename_i h1 h2 h3
        refine .inr ⟨rfl, ?_⟩
        cases ho : ownerOk owner <;> cases hr : right <;> cases hh : had <;> cases hd : decide (now < u) <;> simp_all
        exact bytes_eq (by simpa using h3)

/-- The ways of an act. -/
theorem own_ways (how : Int) (o : ByteArray) (u : Int) (had : Bool) (now : Int) (owner dst : ByteArray) (d : Int) (g1 : 1 ≤ how) (g4 : how ≤ 4) (h1 : 0 ≤ now) (h2 : now ≤ 18446744073709551615) (h3 : 0 ≤ d) :
    (∃ x, doesL how o u had now owner dst d = ⟨⟨#[]⟩, 0, 0, ⟨#[]⟩, 0, 0, x⟩ ∧ (x != 0) = true) ∨
    (∃ t, doesL how o u had now owner dst d = ⟨owner, t, how, owner, now, t, 0⟩ ∧ how = 1 ∧ now ≤ t ∧ t ≤ 18446744073709551615 ∧ (decide (now < t) = true ∨ (now != 18446744073709551615) = false ∧ decide (now < t) = false) ∧ ownerOk owner = true ∧ (had = false ∨ had = true ∧ decide (now < u) = false)) ∨
    (∃ t, doesL how o u had now owner dst d = ⟨owner, t, how, owner, now, t, 0⟩ ∧ how = 2 ∧ now ≤ t ∧ t ≤ 18446744073709551615 ∧ (decide (now < t) = true ∨ (now != 18446744073709551615) = false ∧ decide (now < t) = false) ∧ ownerOk owner = true ∧ had = true ∧ decide (now < u) = true ∧ o = owner) ∨
    (doesL how o u had now owner dst d = ⟨⟨#[]⟩, 0, how, owner, now, now, 0⟩ ∧ how = 3 ∧ had = true ∧ decide (now < u) = true ∧ o = owner) ∨
    (doesL how o u had now owner dst d = ⟨dst, u, how, dst, now, u, 0⟩ ∧ how = 4 ∧ ownerOk dst = true ∧ had = true ∧ decide (now < u) = true ∧ o = owner) := by
  obtain ⟨p1, p2, p3⟩ := plus_facts now d h1 h2 h3
  have p4 : 0 < d → (decide (now < plusI now d) = true ∨ (now != 18446744073709551615) = false ∧ decide (now < plusI now d) = false) := by
    intro hd
    by_cases hl : now < plusI now d
    · exact .inl (by simpa using hl)
    · refine .inr ⟨?_, by simpa using hl⟩
      rcases p3 hd with h | h
      · exact absurd h hl
      · simp [h]
  obtain rfl | rfl | rfl | rfl : how = 1 ∨ how = 2 ∨ how = 3 ∨ how = 4 := by omega
  · unfold doesL takeL
    rw [if_pos rfl]
    split
    · exact .inl ⟨1, rfl, by decide⟩
    · split
      · exact .inl ⟨22, rfl, by decide⟩
      · rename_i h4 h5
        refine .inr (.inl ⟨plusI now d, rfl, rfl, p1, p2, p4 ?_, ?_, ?_⟩)
        · have : ¬ d = 0 := by intro h0; simp [h0] at h4
          omega
        · cases ho : ownerOk owner <;> simp_all
        · cases hh : had <;> cases hd : decide (now < u) <;> simp_all
  · rcases ownE_cases o u had now owner (decide (0 < d)) with h | ⟨h, h4, h5, h6, h7, h8⟩
    · refine .inl ⟨ownE o u had now owner (decide (0 < d)), ?_, h⟩
      unfold doesL renewL noL
      rw [if_neg (by omega), if_pos rfl, if_pos h]
    · refine .inr (.inr (.inl ⟨plusI now d, ?_, rfl, p1, p2, p4 (by simpa using h5), h4, h6, h7, h8⟩))
      unfold doesL renewL toldL
      rw [if_neg (by omega), if_pos rfl, if_neg (by rw [h]; decide)]
  · rcases ownE_cases o u had now owner true with h | ⟨h, h4, h5, h6, h7, h8⟩
    · refine .inl ⟨ownE o u had now owner true, ?_, h⟩
      unfold doesL releaseL noL
      rw [if_neg (by omega), if_neg (by omega), if_pos rfl, if_pos h]
    · refine .inr (.inr (.inr (.inl ⟨?_, rfl, h6, h7, h8⟩)))
      unfold doesL releaseL
      rw [if_neg (by omega), if_neg (by omega), if_pos rfl, if_neg (by rw [h]; decide)]
  · rcases ownE_cases o u had now owner (ownerOk dst) with h | ⟨h, h4, h5, h6, h7, h8⟩
    · refine .inl ⟨ownE o u had now owner (ownerOk dst), ?_, h⟩
      unfold doesL moveL noL
      rw [if_neg (by omega), if_neg (by omega), if_neg (by omega), if_pos h]
    · refine .inr (.inr (.inr (.inr ⟨?_, rfl, h5, h6, h7, h8⟩)))
      unfold doesL moveL toldL
      rw [if_neg (by omega), if_neg (by omega), if_neg (by omega), if_neg (by rw [h]; decide)]

set_option maxRecDepth 100000 in
set_option maxHeartbeats 16000000 in
theorem own_walk (A : Option Addr) (n cap : Nat) (w : World) (h : ActsAt w A n) :
    Calls Try.prog 6 #[.slice A n cap] w fun e w' => e = .returned (.bool true) ∧ Below w.heap.size w w' := by
  go_enter Try.func6, Try.ntmps6
  go_wp2_with fail
  refine (Great_any A n cap w h).mono ?_
  rintro e w1 ⟨r, rfl, hb1⟩
  obtain ⟨hn, hc⟩ := h
  unfold maxLen at hn
  have z1 := hb1.size
  cases r
  · go_wp2_with fail
    go_loopw [4, 5, 6] (fun s4 s5 s6 wr => ∃ (k : Nat) (o : ByteArray) (u : Int) (had : Bool) (now : Int), k ≤ n ∧ s4 = .bool had ∧ s5 = .int .u64 now ∧ s6 = .int .i64 k ∧ 0 ≤ now ∧ now ≤ 18446744073709551615 ∧ wr.cell? ⟨w1.heap.size, 0, none⟩ = some (.string o) ∧ wr.cell? ⟨w1.heap.size, 1, none⟩ = some (.int .u64 u) ∧ wr.frozen? ⟨w1.heap.size, 0, none⟩ = false ∧ wr.frozen? ⟨w1.heap.size, 1, none⟩ = false ∧ Below w.heap.size w wr ∧ w1.heap.size < wr.heap.size) (fun _ _ i _ => n - (intOf i).toNat)
    case atStart => exact ⟨0, ⟨#[]⟩, 0, false, 0, by omega, rfl, rfl, rfl, by omega, by omega, by simp, by simp, by simp, by simp, (by repeat' first | (with_reducible exact Below.refl _ _) | (with_reducible refine Below.setCell ?_ ?_ _) | (with_reducible refine Below.alloc ?_ ?_ _) | (with_reducible refine Below.drew ?_) | (with_reducible refine Below.trans ?_ (Below.mono (by assumption) ?_)) | omega | (simp; done) | (simp; omega)), by simp⟩
    case round =>
      obtain ⟨k, o, u, had, now, hk, rfl, rfl, rfl, n0, n1, q0, q1, q2, q3, hb0, z0⟩ := hrel
      by_cases hlt : k < n
      · obtain ⟨b, off, rfl, hbl, hel⟩ := hc (by omega)
        obtain ⟨y, hy, hf⟩ := hel k hlt
        obtain ⟨f1, f2, f3, f4, f5, f6, f7, f8⟩ := hf
        obtain ⟨e0, e1, e2, e3, e4⟩ := hy.below hb0 hbl
        obtain ⟨how, owner, dst, d, wait⟩ := y
        dsimp only at *
        clear hel hc hy
        unfold maxLen at f5 f6
        have ze : b < wr.heap.size := by omega
        go_wp2_with fail
        go_at_call 8
        refine (Plus_any _ _ _ n0 n1 f3 f4).mono ?_
        rintro e w' ⟨rfl, rfl⟩
        obtain ⟨g0, g1, g2⟩ := plus_facts now wait n0 n1 f3
        generalize plusI now wait = t at *
        clear f5 f6 f7 f8 e0 e1 e2 e3 e4 g2
        by_cases hr1 : how < 1
        · go_wp2_with fail

          exact ⟨⟨k + 1, o, u, had, t, by omega, rfl, rfl, by go_num, by omega, by omega, by simp [go_sem, *], by simp [go_sem, *], by simp [go_sem, *], by simp [go_sem, *], (by repeat' first | (with_reducible exact Below.refl _ _) | (with_reducible refine Below.setCell ?_ ?_ _) | (with_reducible refine Below.alloc ?_ ?_ _) | (with_reducible refine Below.drew ?_) | (with_reducible refine Below.trans ?_ (Below.mono (by assumption) ?_)) | omega | (simp; done) | (simp; omega)), by first | omega | (simp; done) | (simp; omega)⟩, by simp [intOf]; omega⟩
        by_cases hr4 : 4 < how
        · go_wp2_with fail
          exact ⟨⟨k + 1, o, u, had, t, by omega, rfl, rfl, by go_num, by omega, by omega, by simp [go_sem, *], by simp [go_sem, *], by simp [go_sem, *], by simp [go_sem, *], (by repeat' first | (with_reducible exact Below.refl _ _) | (with_reducible refine Below.setCell ?_ ?_ _) | (with_reducible refine Below.alloc ?_ ?_ _) | (with_reducible refine Below.drew ?_) | (with_reducible refine Below.trans ?_ (Below.mono (by assumption) ?_)) | omega | (simp; done) | (simp; omega)), by first | omega | (simp; done) | (simp; omega)⟩, by simp [intOf]; omega⟩
        rcases own_ways how o u had t owner dst d (by omega) (by omega) (by omega) (by omega) f1 with ⟨x, hx, hx0⟩ | ⟨v, hx, k1, k2, k3, k4 | ⟨k4, k44⟩, k5, k6 | ⟨k6, k7⟩⟩ | ⟨v, hx, k1, k2, k3, k4 | ⟨k4, k44⟩, k5, k6, k7, k8⟩ | ⟨hx, k1, k6, k7, k8⟩ | ⟨hx, k1, k5, k6, k7, k8⟩
        · replace hx := Lib.hid hx
          cases had
          · go_wp2_with fail
            go_at_call 15
            refine (does_val _ _ _ _ _ _ _ _ _ _ hx.out _ (by omega) (by omega) (by omega) (by omega) f1 f2).mono ?_
            rintro e w3 ⟨rfl, hb3⟩
            obtain ⟨hc3, hf3⟩ := bcell hb3
            have z3 := hb3.size
            try simp at z3
            have z3_0 : w1.heap.size < w3.heap.size := (by first | omega | (simp at z3; omega))
            have c3_0 := fun o => hc3 (w1.heap.size) o (by first | omega | (simp; done) | (simp; omega))
            have d3_0 := fun o => hf3 (w1.heap.size) o (by first | omega | (simp; done) | (simp; omega))
            have z3_1 : wr.heap.size < w3.heap.size := (by first | omega | (simp at z3; omega))
            have c3_1 := fun o => hc3 (wr.heap.size) o (by first | omega | (simp; done) | (simp; omega))
            have d3_1 := fun o => hf3 (wr.heap.size) o (by first | omega | (simp; done) | (simp; omega))
            clear hc3 hf3
            go_wp2_with fail
            exact ⟨⟨k + 1, o, u, false, t, by omega, rfl, rfl, by go_num, by omega, by omega, by simp [go_sem, *], by simp [go_sem, *], by simp [go_sem, *], by simp [go_sem, *], (by repeat' first | (with_reducible exact Below.refl _ _) | (with_reducible refine Below.setCell ?_ ?_ _) | (with_reducible refine Below.alloc ?_ ?_ _) | (with_reducible refine Below.drew ?_) | (with_reducible refine Below.trans ?_ (Below.mono (by assumption) ?_)) | omega | (simp; done) | (simp; omega)), by first | omega | (simp; done) | (simp; omega)⟩, by simp [intOf]; omega⟩
          · go_wp2_with fail
            go_at_call 15
            refine (does_val _ _ _ _ _ _ _ _ _ _ hx.out _ (by omega) (by omega) (by omega) (by omega) f1 f2).mono ?_
            rintro e w3 ⟨rfl, hb3⟩
            obtain ⟨hc3, hf3⟩ := bcell hb3
            have z3 := hb3.size
            try simp at z3
            have z3_0 : w1.heap.size < w3.heap.size := (by first | omega | (simp at z3; omega))
            have c3_0 := fun o => hc3 (w1.heap.size) o (by first | omega | (simp; done) | (simp; omega))
            have d3_0 := fun o => hf3 (w1.heap.size) o (by first | omega | (simp; done) | (simp; omega))
            have z3_1 : wr.heap.size < w3.heap.size := (by first | omega | (simp at z3; omega))
            have c3_1 := fun o => hc3 (wr.heap.size) o (by first | omega | (simp; done) | (simp; omega))
            have d3_1 := fun o => hf3 (wr.heap.size) o (by first | omega | (simp; done) | (simp; omega))
            clear hc3 hf3
            go_wp2_with fail
            go_at_call 9
            refine (Runs_any _ _ _ _).mono ?_
            rintro e w4 ⟨rfl, hb4⟩
            obtain ⟨hc4, hf4⟩ := bcell hb4
            have z4 := hb4.size
            try simp at z4
            have z4_0 : w1.heap.size < w4.heap.size := (by first | omega | (simp at z4; omega))
            have c4_0 := fun o => hc4 (w1.heap.size) o (by first | omega | (simp; done) | (simp; omega))
            have d4_0 := fun o => hf4 (w1.heap.size) o (by first | omega | (simp; done) | (simp; omega))
            have z4_1 : wr.heap.size < w4.heap.size := (by first | omega | (simp at z4; omega))
            have c4_1 := fun o => hc4 (wr.heap.size) o (by first | omega | (simp; done) | (simp; omega))
            have d4_1 := fun o => hf4 (wr.heap.size) o (by first | omega | (simp; done) | (simp; omega))
            have z4_2 : w3.heap.size < w4.heap.size := (by first | omega | (simp at z4; omega))
            have c4_2 := fun o => hc4 (w3.heap.size) o (by first | omega | (simp; done) | (simp; omega))
            have d4_2 := fun o => hf4 (w3.heap.size) o (by first | omega | (simp; done) | (simp; omega))
            have z4_3 : w3.heap.size + 1 < w4.heap.size := (by first | omega | (simp at z4; omega))
            have c4_3 := fun o => hc4 (w3.heap.size + 1) o (by first | omega | (simp; done) | (simp; omega))
            have d4_3 := fun o => hf4 (w3.heap.size + 1) o (by first | omega | (simp; done) | (simp; omega))
            clear hc4 hf4
            go_wp2_with fail
            exact ⟨⟨k + 1, o, u, true, t, by omega, rfl, rfl, by go_num, by omega, by omega, by simp [go_sem, *], by simp [go_sem, *], by simp [go_sem, *], by simp [go_sem, *], (by repeat' first | (with_reducible exact Below.refl _ _) | (with_reducible refine Below.setCell ?_ ?_ _) | (with_reducible refine Below.alloc ?_ ?_ _) | (with_reducible refine Below.drew ?_) | (with_reducible refine Below.trans ?_ (Below.mono (by assumption) ?_)) | omega | (simp; done) | (simp; omega)), by first | omega | (simp; done) | (simp; omega)⟩, by simp [intOf]; omega⟩
        · replace hx := Lib.hid hx
          subst k1
          subst k6
          replace k4 := Lib.hid k4
          go_wp2_with fail
          go_at_call 15
          refine (does_val _ _ _ _ _ _ _ _ _ _ hx.out _ (by omega) (by omega) (by omega) (by omega) f1 f2).mono ?_
          rintro e w3 ⟨rfl, hb3⟩
          obtain ⟨hc3, hf3⟩ := bcell hb3
          have z3 := hb3.size
          try simp at z3
          have z3_0 : w1.heap.size < w3.heap.size := (by first | omega | (simp at z3; omega))
          have c3_0 := fun o => hc3 (w1.heap.size) o (by first | omega | (simp; done) | (simp; omega))
          have d3_0 := fun o => hf3 (w1.heap.size) o (by first | omega | (simp; done) | (simp; omega))
          have z3_1 : wr.heap.size < w3.heap.size := (by first | omega | (simp at z3; omega))
          have c3_1 := fun o => hc3 (wr.heap.size) o (by first | omega | (simp; done) | (simp; omega))
          have d3_1 := fun o => hf3 (wr.heap.size) o (by first | omega | (simp; done) | (simp; omega))
          clear hc3 hf3
          go_wp2_with ((go_at_call 17; refine (Owner_any _ _).mono ?_; rintro e w' ⟨rfl, rfl⟩))
          go_wp2_with fail
          go_at_call 9
          refine (Runs_val _ _ _ _ k4.out _).mono ?_
          rintro e w5 ⟨rfl, hb5⟩
          obtain ⟨hc5, hf5⟩ := bcell hb5
          have z5 := hb5.size
          try simp at z5
          have z5_0 : w1.heap.size < w5.heap.size := (by first | omega | (simp at z5; omega))
          have c5_0 := fun o => hc5 (w1.heap.size) o (by first | omega | (simp; done) | (simp; omega))
          have d5_0 := fun o => hf5 (w1.heap.size) o (by first | omega | (simp; done) | (simp; omega))
          have z5_1 : wr.heap.size < w5.heap.size := (by first | omega | (simp at z5; omega))
          have c5_1 := fun o => hc5 (wr.heap.size) o (by first | omega | (simp; done) | (simp; omega))
          have d5_1 := fun o => hf5 (wr.heap.size) o (by first | omega | (simp; done) | (simp; omega))
          have z5_2 : w3.heap.size < w5.heap.size := (by first | omega | (simp at z5; omega))
          have c5_2 := fun o => hc5 (w3.heap.size) o (by first | omega | (simp; done) | (simp; omega))
          have d5_2 := fun o => hf5 (w3.heap.size) o (by first | omega | (simp; done) | (simp; omega))
          have z5_3 : w3.heap.size + 1 < w5.heap.size := (by first | omega | (simp at z5; omega))
          have c5_3 := fun o => hc5 (w3.heap.size + 1) o (by first | omega | (simp; done) | (simp; omega))
          have d5_3 := fun o => hf5 (w3.heap.size + 1) o (by first | omega | (simp; done) | (simp; omega))
          clear hc5 hf5
          go_wp2_with fail
          have q5_0 : w5.cell? ⟨w1.heap.size, 0, none⟩ = some (.string o) := by simp [go_sem, *]
          have q5_1 : w5.cell? ⟨w1.heap.size, 1, none⟩ = some (.int .u64 u) := by simp [go_sem, *]
          have r5_0 : w5.frozen? ⟨w1.heap.size, 0, none⟩ = false := by simp [go_sem, *]
          have r5_1 : w5.frozen? ⟨w1.heap.size, 1, none⟩ = false := by simp [go_sem, *]
          clear c5_0 d5_0
          exact ⟨⟨k + 1, owner, v, true, t, by omega, rfl, rfl, by go_num, by omega, by omega, by simp [go_sem, *], by simp [go_sem, *], by simp [go_sem, *], by simp [go_sem, *], (by repeat' first | (with_reducible exact Below.refl _ _) | (with_reducible refine Below.setCell ?_ ?_ _) | (with_reducible refine Below.alloc ?_ ?_ _) | (with_reducible refine Below.drew ?_) | (with_reducible refine Below.trans ?_ (Below.mono (by assumption) ?_)) | omega | (simp; done) | (simp; omega)), by first | omega | (simp; done) | (simp; omega)⟩, by simp [intOf]; omega⟩
        · replace hx := Lib.hid hx
          subst k1
          subst k6
          replace k7 := Lib.hid k7
          replace k4 := Lib.hid k4
          go_wp2_with fail
          go_at_call 15
          refine (does_val _ _ _ _ _ _ _ _ _ _ hx.out _ (by omega) (by omega) (by omega) (by omega) f1 f2).mono ?_
          rintro e w3 ⟨rfl, hb3⟩
          obtain ⟨hc3, hf3⟩ := bcell hb3
          have z3 := hb3.size
          try simp at z3
          have z3_0 : w1.heap.size < w3.heap.size := (by first | omega | (simp at z3; omega))
          have c3_0 := fun o => hc3 (w1.heap.size) o (by first | omega | (simp; done) | (simp; omega))
          have d3_0 := fun o => hf3 (w1.heap.size) o (by first | omega | (simp; done) | (simp; omega))
          have z3_1 : wr.heap.size < w3.heap.size := (by first | omega | (simp at z3; omega))
          have c3_1 := fun o => hc3 (wr.heap.size) o (by first | omega | (simp; done) | (simp; omega))
          have d3_1 := fun o => hf3 (wr.heap.size) o (by first | omega | (simp; done) | (simp; omega))
          clear hc3 hf3
          go_wp2_with fail
          go_at_call 9
          refine (Runs_val _ _ _ _ k7.out _).mono ?_
          rintro e w4 ⟨rfl, hb4⟩
          obtain ⟨hc4, hf4⟩ := bcell hb4
          have z4 := hb4.size
          try simp at z4
          have z4_0 : w1.heap.size < w4.heap.size := (by first | omega | (simp at z4; omega))
          have c4_0 := fun o => hc4 (w1.heap.size) o (by first | omega | (simp; done) | (simp; omega))
          have d4_0 := fun o => hf4 (w1.heap.size) o (by first | omega | (simp; done) | (simp; omega))
          have z4_1 : wr.heap.size < w4.heap.size := (by first | omega | (simp at z4; omega))
          have c4_1 := fun o => hc4 (wr.heap.size) o (by first | omega | (simp; done) | (simp; omega))
          have d4_1 := fun o => hf4 (wr.heap.size) o (by first | omega | (simp; done) | (simp; omega))
          have z4_2 : w3.heap.size < w4.heap.size := (by first | omega | (simp at z4; omega))
          have c4_2 := fun o => hc4 (w3.heap.size) o (by first | omega | (simp; done) | (simp; omega))
          have d4_2 := fun o => hf4 (w3.heap.size) o (by first | omega | (simp; done) | (simp; omega))
          have z4_3 : w3.heap.size + 1 < w4.heap.size := (by first | omega | (simp at z4; omega))
          have c4_3 := fun o => hc4 (w3.heap.size + 1) o (by first | omega | (simp; done) | (simp; omega))
          have d4_3 := fun o => hf4 (w3.heap.size + 1) o (by first | omega | (simp; done) | (simp; omega))
          clear hc4 hf4
          go_wp2_with ((go_at_call 17; refine (Owner_any _ _).mono ?_; rintro e w' ⟨rfl, rfl⟩))
          go_wp2_with fail
          go_at_call 9
          refine (Runs_val _ _ _ _ k4.out _).mono ?_
          rintro e w5 ⟨rfl, hb5⟩
          obtain ⟨hc5, hf5⟩ := bcell hb5
          have z5 := hb5.size
          try simp at z5
          have z5_0 : w1.heap.size < w5.heap.size := (by first | omega | (simp at z5; omega))
          have c5_0 := fun o => hc5 (w1.heap.size) o (by first | omega | (simp; done) | (simp; omega))
          have d5_0 := fun o => hf5 (w1.heap.size) o (by first | omega | (simp; done) | (simp; omega))
          have z5_1 : wr.heap.size < w5.heap.size := (by first | omega | (simp at z5; omega))
          have c5_1 := fun o => hc5 (wr.heap.size) o (by first | omega | (simp; done) | (simp; omega))
          have d5_1 := fun o => hf5 (wr.heap.size) o (by first | omega | (simp; done) | (simp; omega))
          have z5_2 : w3.heap.size < w5.heap.size := (by first | omega | (simp at z5; omega))
          have c5_2 := fun o => hc5 (w3.heap.size) o (by first | omega | (simp; done) | (simp; omega))
          have d5_2 := fun o => hf5 (w3.heap.size) o (by first | omega | (simp; done) | (simp; omega))
          have z5_3 : w3.heap.size + 1 < w5.heap.size := (by first | omega | (simp at z5; omega))
          have c5_3 := fun o => hc5 (w3.heap.size + 1) o (by first | omega | (simp; done) | (simp; omega))
          have d5_3 := fun o => hf5 (w3.heap.size + 1) o (by first | omega | (simp; done) | (simp; omega))
          clear hc5 hf5
          go_wp2_with fail
          have q5_0 : w5.cell? ⟨w1.heap.size, 0, none⟩ = some (.string o) := by simp [go_sem, *]
          have q5_1 : w5.cell? ⟨w1.heap.size, 1, none⟩ = some (.int .u64 u) := by simp [go_sem, *]
          have r5_0 : w5.frozen? ⟨w1.heap.size, 0, none⟩ = false := by simp [go_sem, *]
          have r5_1 : w5.frozen? ⟨w1.heap.size, 1, none⟩ = false := by simp [go_sem, *]
          clear c5_0 d5_0
          exact ⟨⟨k + 1, owner, v, true, t, by omega, rfl, rfl, by go_num, by omega, by omega, by simp [go_sem, *], by simp [go_sem, *], by simp [go_sem, *], by simp [go_sem, *], (by repeat' first | (with_reducible exact Below.refl _ _) | (with_reducible refine Below.setCell ?_ ?_ _) | (with_reducible refine Below.alloc ?_ ?_ _) | (with_reducible refine Below.drew ?_) | (with_reducible refine Below.trans ?_ (Below.mono (by assumption) ?_)) | omega | (simp; done) | (simp; omega)), by first | omega | (simp; done) | (simp; omega)⟩, by simp [intOf]; omega⟩
        · replace hx := Lib.hid hx
          subst k1
          subst k6
          replace k44 := Lib.hid k44
          go_wp2_with fail
          go_at_call 15
          refine (does_val _ _ _ _ _ _ _ _ _ _ hx.out _ (by omega) (by omega) (by omega) (by omega) f1 f2).mono ?_
          rintro e w3 ⟨rfl, hb3⟩
          obtain ⟨hc3, hf3⟩ := bcell hb3
          have z3 := hb3.size
          try simp at z3
          have z3_0 : w1.heap.size < w3.heap.size := (by first | omega | (simp at z3; omega))
          have c3_0 := fun o => hc3 (w1.heap.size) o (by first | omega | (simp; done) | (simp; omega))
          have d3_0 := fun o => hf3 (w1.heap.size) o (by first | omega | (simp; done) | (simp; omega))
          have z3_1 : wr.heap.size < w3.heap.size := (by first | omega | (simp at z3; omega))
          have c3_1 := fun o => hc3 (wr.heap.size) o (by first | omega | (simp; done) | (simp; omega))
          have d3_1 := fun o => hf3 (wr.heap.size) o (by first | omega | (simp; done) | (simp; omega))
          clear hc3 hf3
          go_wp2_with ((go_at_call 17; refine (Owner_any _ _).mono ?_; rintro e w' ⟨rfl, rfl⟩))
          go_wp2_with fail
          go_at_call 9
          refine (Runs_val _ _ _ _ k44.out _).mono ?_
          rintro e w5 ⟨rfl, hb5⟩
          obtain ⟨hc5, hf5⟩ := bcell hb5
          have z5 := hb5.size
          try simp at z5
          have z5_0 : w1.heap.size < w5.heap.size := (by first | omega | (simp at z5; omega))
          have c5_0 := fun o => hc5 (w1.heap.size) o (by first | omega | (simp; done) | (simp; omega))
          have d5_0 := fun o => hf5 (w1.heap.size) o (by first | omega | (simp; done) | (simp; omega))
          have z5_1 : wr.heap.size < w5.heap.size := (by first | omega | (simp at z5; omega))
          have c5_1 := fun o => hc5 (wr.heap.size) o (by first | omega | (simp; done) | (simp; omega))
          have d5_1 := fun o => hf5 (wr.heap.size) o (by first | omega | (simp; done) | (simp; omega))
          have z5_2 : w3.heap.size < w5.heap.size := (by first | omega | (simp at z5; omega))
          have c5_2 := fun o => hc5 (w3.heap.size) o (by first | omega | (simp; done) | (simp; omega))
          have d5_2 := fun o => hf5 (w3.heap.size) o (by first | omega | (simp; done) | (simp; omega))
          have z5_3 : w3.heap.size + 1 < w5.heap.size := (by first | omega | (simp at z5; omega))
          have c5_3 := fun o => hc5 (w3.heap.size + 1) o (by first | omega | (simp; done) | (simp; omega))
          have d5_3 := fun o => hf5 (w3.heap.size + 1) o (by first | omega | (simp; done) | (simp; omega))
          clear hc5 hf5
          go_wp2_with fail
          have q5_0 : w5.cell? ⟨w1.heap.size, 0, none⟩ = some (.string o) := by simp [go_sem, *]
          have q5_1 : w5.cell? ⟨w1.heap.size, 1, none⟩ = some (.int .u64 u) := by simp [go_sem, *]
          have r5_0 : w5.frozen? ⟨w1.heap.size, 0, none⟩ = false := by simp [go_sem, *]
          have r5_1 : w5.frozen? ⟨w1.heap.size, 1, none⟩ = false := by simp [go_sem, *]
          clear c5_0 d5_0
          exact ⟨⟨k + 1, owner, v, true, t, by omega, rfl, rfl, by go_num, by omega, by omega, by simp [go_sem, *], by simp [go_sem, *], by simp [go_sem, *], by simp [go_sem, *], (by repeat' first | (with_reducible exact Below.refl _ _) | (with_reducible refine Below.setCell ?_ ?_ _) | (with_reducible refine Below.alloc ?_ ?_ _) | (with_reducible refine Below.drew ?_) | (with_reducible refine Below.trans ?_ (Below.mono (by assumption) ?_)) | omega | (simp; done) | (simp; omega)), by first | omega | (simp; done) | (simp; omega)⟩, by simp [intOf]; omega⟩
        · replace hx := Lib.hid hx
          subst k1
          subst k6
          replace k7 := Lib.hid k7
          replace k44 := Lib.hid k44
          go_wp2_with fail
          go_at_call 15
          refine (does_val _ _ _ _ _ _ _ _ _ _ hx.out _ (by omega) (by omega) (by omega) (by omega) f1 f2).mono ?_
          rintro e w3 ⟨rfl, hb3⟩
          obtain ⟨hc3, hf3⟩ := bcell hb3
          have z3 := hb3.size
          try simp at z3
          have z3_0 : w1.heap.size < w3.heap.size := (by first | omega | (simp at z3; omega))
          have c3_0 := fun o => hc3 (w1.heap.size) o (by first | omega | (simp; done) | (simp; omega))
          have d3_0 := fun o => hf3 (w1.heap.size) o (by first | omega | (simp; done) | (simp; omega))
          have z3_1 : wr.heap.size < w3.heap.size := (by first | omega | (simp at z3; omega))
          have c3_1 := fun o => hc3 (wr.heap.size) o (by first | omega | (simp; done) | (simp; omega))
          have d3_1 := fun o => hf3 (wr.heap.size) o (by first | omega | (simp; done) | (simp; omega))
          clear hc3 hf3
          go_wp2_with fail
          go_at_call 9
          refine (Runs_val _ _ _ _ k7.out _).mono ?_
          rintro e w4 ⟨rfl, hb4⟩
          obtain ⟨hc4, hf4⟩ := bcell hb4
          have z4 := hb4.size
          try simp at z4
          have z4_0 : w1.heap.size < w4.heap.size := (by first | omega | (simp at z4; omega))
          have c4_0 := fun o => hc4 (w1.heap.size) o (by first | omega | (simp; done) | (simp; omega))
          have d4_0 := fun o => hf4 (w1.heap.size) o (by first | omega | (simp; done) | (simp; omega))
          have z4_1 : wr.heap.size < w4.heap.size := (by first | omega | (simp at z4; omega))
          have c4_1 := fun o => hc4 (wr.heap.size) o (by first | omega | (simp; done) | (simp; omega))
          have d4_1 := fun o => hf4 (wr.heap.size) o (by first | omega | (simp; done) | (simp; omega))
          have z4_2 : w3.heap.size < w4.heap.size := (by first | omega | (simp at z4; omega))
          have c4_2 := fun o => hc4 (w3.heap.size) o (by first | omega | (simp; done) | (simp; omega))
          have d4_2 := fun o => hf4 (w3.heap.size) o (by first | omega | (simp; done) | (simp; omega))
          have z4_3 : w3.heap.size + 1 < w4.heap.size := (by first | omega | (simp at z4; omega))
          have c4_3 := fun o => hc4 (w3.heap.size + 1) o (by first | omega | (simp; done) | (simp; omega))
          have d4_3 := fun o => hf4 (w3.heap.size + 1) o (by first | omega | (simp; done) | (simp; omega))
          clear hc4 hf4
          go_wp2_with ((go_at_call 17; refine (Owner_any _ _).mono ?_; rintro e w' ⟨rfl, rfl⟩))
          go_wp2_with fail
          go_at_call 9
          refine (Runs_val _ _ _ _ k44.out _).mono ?_
          rintro e w5 ⟨rfl, hb5⟩
          obtain ⟨hc5, hf5⟩ := bcell hb5
          have z5 := hb5.size
          try simp at z5
          have z5_0 : w1.heap.size < w5.heap.size := (by first | omega | (simp at z5; omega))
          have c5_0 := fun o => hc5 (w1.heap.size) o (by first | omega | (simp; done) | (simp; omega))
          have d5_0 := fun o => hf5 (w1.heap.size) o (by first | omega | (simp; done) | (simp; omega))
          have z5_1 : wr.heap.size < w5.heap.size := (by first | omega | (simp at z5; omega))
          have c5_1 := fun o => hc5 (wr.heap.size) o (by first | omega | (simp; done) | (simp; omega))
          have d5_1 := fun o => hf5 (wr.heap.size) o (by first | omega | (simp; done) | (simp; omega))
          have z5_2 : w3.heap.size < w5.heap.size := (by first | omega | (simp at z5; omega))
          have c5_2 := fun o => hc5 (w3.heap.size) o (by first | omega | (simp; done) | (simp; omega))
          have d5_2 := fun o => hf5 (w3.heap.size) o (by first | omega | (simp; done) | (simp; omega))
          have z5_3 : w3.heap.size + 1 < w5.heap.size := (by first | omega | (simp at z5; omega))
          have c5_3 := fun o => hc5 (w3.heap.size + 1) o (by first | omega | (simp; done) | (simp; omega))
          have d5_3 := fun o => hf5 (w3.heap.size + 1) o (by first | omega | (simp; done) | (simp; omega))
          clear hc5 hf5
          go_wp2_with fail
          have q5_0 : w5.cell? ⟨w1.heap.size, 0, none⟩ = some (.string o) := by simp [go_sem, *]
          have q5_1 : w5.cell? ⟨w1.heap.size, 1, none⟩ = some (.int .u64 u) := by simp [go_sem, *]
          have r5_0 : w5.frozen? ⟨w1.heap.size, 0, none⟩ = false := by simp [go_sem, *]
          have r5_1 : w5.frozen? ⟨w1.heap.size, 1, none⟩ = false := by simp [go_sem, *]
          clear c5_0 d5_0
          exact ⟨⟨k + 1, owner, v, true, t, by omega, rfl, rfl, by go_num, by omega, by omega, by simp [go_sem, *], by simp [go_sem, *], by simp [go_sem, *], by simp [go_sem, *], (by repeat' first | (with_reducible exact Below.refl _ _) | (with_reducible refine Below.setCell ?_ ?_ _) | (with_reducible refine Below.alloc ?_ ?_ _) | (with_reducible refine Below.drew ?_) | (with_reducible refine Below.trans ?_ (Below.mono (by assumption) ?_)) | omega | (simp; done) | (simp; omega)), by first | omega | (simp; done) | (simp; omega)⟩, by simp [intOf]; omega⟩
        · replace hx := Lib.hid hx
          subst k1
          subst k6
          subst k8
          replace k7 := Lib.hid k7
          replace k4 := Lib.hid k4
          go_wp2_with fail
          go_at_call 15
          refine (does_val _ _ _ _ _ _ _ _ _ _ hx.out _ (by omega) (by omega) (by omega) (by omega) f1 f2).mono ?_
          rintro e w3 ⟨rfl, hb3⟩
          obtain ⟨hc3, hf3⟩ := bcell hb3
          have z3 := hb3.size
          try simp at z3
          have z3_0 : w1.heap.size < w3.heap.size := (by first | omega | (simp at z3; omega))
          have c3_0 := fun o => hc3 (w1.heap.size) o (by first | omega | (simp; done) | (simp; omega))
          have d3_0 := fun o => hf3 (w1.heap.size) o (by first | omega | (simp; done) | (simp; omega))
          have z3_1 : wr.heap.size < w3.heap.size := (by first | omega | (simp at z3; omega))
          have c3_1 := fun o => hc3 (wr.heap.size) o (by first | omega | (simp; done) | (simp; omega))
          have d3_1 := fun o => hf3 (wr.heap.size) o (by first | omega | (simp; done) | (simp; omega))
          clear hc3 hf3
          go_wp2_with fail
          go_at_call 9
          refine (Runs_val _ _ _ _ k7.out _).mono ?_
          rintro e w4 ⟨rfl, hb4⟩
          obtain ⟨hc4, hf4⟩ := bcell hb4
          have z4 := hb4.size
          try simp at z4
          have z4_0 : w1.heap.size < w4.heap.size := (by first | omega | (simp at z4; omega))
          have c4_0 := fun o => hc4 (w1.heap.size) o (by first | omega | (simp; done) | (simp; omega))
          have d4_0 := fun o => hf4 (w1.heap.size) o (by first | omega | (simp; done) | (simp; omega))
          have z4_1 : wr.heap.size < w4.heap.size := (by first | omega | (simp at z4; omega))
          have c4_1 := fun o => hc4 (wr.heap.size) o (by first | omega | (simp; done) | (simp; omega))
          have d4_1 := fun o => hf4 (wr.heap.size) o (by first | omega | (simp; done) | (simp; omega))
          have z4_2 : w3.heap.size < w4.heap.size := (by first | omega | (simp at z4; omega))
          have c4_2 := fun o => hc4 (w3.heap.size) o (by first | omega | (simp; done) | (simp; omega))
          have d4_2 := fun o => hf4 (w3.heap.size) o (by first | omega | (simp; done) | (simp; omega))
          have z4_3 : w3.heap.size + 1 < w4.heap.size := (by first | omega | (simp at z4; omega))
          have c4_3 := fun o => hc4 (w3.heap.size + 1) o (by first | omega | (simp; done) | (simp; omega))
          have d4_3 := fun o => hf4 (w3.heap.size + 1) o (by first | omega | (simp; done) | (simp; omega))
          clear hc4 hf4
          go_wp2_with ((go_at_call 17; refine (Owner_any _ _).mono ?_; rintro e w' ⟨rfl, rfl⟩))
          go_wp2_with fail
          go_at_call 9
          refine (Runs_val _ _ _ _ k4.out _).mono ?_
          rintro e w5 ⟨rfl, hb5⟩
          obtain ⟨hc5, hf5⟩ := bcell hb5
          have z5 := hb5.size
          try simp at z5
          have z5_0 : w1.heap.size < w5.heap.size := (by first | omega | (simp at z5; omega))
          have c5_0 := fun o => hc5 (w1.heap.size) o (by first | omega | (simp; done) | (simp; omega))
          have d5_0 := fun o => hf5 (w1.heap.size) o (by first | omega | (simp; done) | (simp; omega))
          have z5_1 : wr.heap.size < w5.heap.size := (by first | omega | (simp at z5; omega))
          have c5_1 := fun o => hc5 (wr.heap.size) o (by first | omega | (simp; done) | (simp; omega))
          have d5_1 := fun o => hf5 (wr.heap.size) o (by first | omega | (simp; done) | (simp; omega))
          have z5_2 : w3.heap.size < w5.heap.size := (by first | omega | (simp at z5; omega))
          have c5_2 := fun o => hc5 (w3.heap.size) o (by first | omega | (simp; done) | (simp; omega))
          have d5_2 := fun o => hf5 (w3.heap.size) o (by first | omega | (simp; done) | (simp; omega))
          have z5_3 : w3.heap.size + 1 < w5.heap.size := (by first | omega | (simp at z5; omega))
          have c5_3 := fun o => hc5 (w3.heap.size + 1) o (by first | omega | (simp; done) | (simp; omega))
          have d5_3 := fun o => hf5 (w3.heap.size + 1) o (by first | omega | (simp; done) | (simp; omega))
          clear hc5 hf5
          go_wp2_with fail
          have q5_0 : w5.cell? ⟨w1.heap.size, 0, none⟩ = some (.string o) := by simp [go_sem, *]
          have q5_1 : w5.cell? ⟨w1.heap.size, 1, none⟩ = some (.int .u64 u) := by simp [go_sem, *]
          have r5_0 : w5.frozen? ⟨w1.heap.size, 0, none⟩ = false := by simp [go_sem, *]
          have r5_1 : w5.frozen? ⟨w1.heap.size, 1, none⟩ = false := by simp [go_sem, *]
          clear c5_0 d5_0
          exact ⟨⟨k + 1, o, v, true, t, by omega, rfl, rfl, by go_num, by omega, by omega, by simp [go_sem, *], by simp [go_sem, *], by simp [go_sem, *], by simp [go_sem, *], (by repeat' first | (with_reducible exact Below.refl _ _) | (with_reducible refine Below.setCell ?_ ?_ _) | (with_reducible refine Below.alloc ?_ ?_ _) | (with_reducible refine Below.drew ?_) | (with_reducible refine Below.trans ?_ (Below.mono (by assumption) ?_)) | omega | (simp; done) | (simp; omega)), by first | omega | (simp; done) | (simp; omega)⟩, by simp [intOf]; omega⟩
        · replace hx := Lib.hid hx
          subst k1
          subst k6
          subst k8
          replace k7 := Lib.hid k7
          replace k44 := Lib.hid k44
          go_wp2_with fail
          go_at_call 15
          refine (does_val _ _ _ _ _ _ _ _ _ _ hx.out _ (by omega) (by omega) (by omega) (by omega) f1 f2).mono ?_
          rintro e w3 ⟨rfl, hb3⟩
          obtain ⟨hc3, hf3⟩ := bcell hb3
          have z3 := hb3.size
          try simp at z3
          have z3_0 : w1.heap.size < w3.heap.size := (by first | omega | (simp at z3; omega))
          have c3_0 := fun o => hc3 (w1.heap.size) o (by first | omega | (simp; done) | (simp; omega))
          have d3_0 := fun o => hf3 (w1.heap.size) o (by first | omega | (simp; done) | (simp; omega))
          have z3_1 : wr.heap.size < w3.heap.size := (by first | omega | (simp at z3; omega))
          have c3_1 := fun o => hc3 (wr.heap.size) o (by first | omega | (simp; done) | (simp; omega))
          have d3_1 := fun o => hf3 (wr.heap.size) o (by first | omega | (simp; done) | (simp; omega))
          clear hc3 hf3
          go_wp2_with fail
          go_at_call 9
          refine (Runs_val _ _ _ _ k7.out _).mono ?_
          rintro e w4 ⟨rfl, hb4⟩
          obtain ⟨hc4, hf4⟩ := bcell hb4
          have z4 := hb4.size
          try simp at z4
          have z4_0 : w1.heap.size < w4.heap.size := (by first | omega | (simp at z4; omega))
          have c4_0 := fun o => hc4 (w1.heap.size) o (by first | omega | (simp; done) | (simp; omega))
          have d4_0 := fun o => hf4 (w1.heap.size) o (by first | omega | (simp; done) | (simp; omega))
          have z4_1 : wr.heap.size < w4.heap.size := (by first | omega | (simp at z4; omega))
          have c4_1 := fun o => hc4 (wr.heap.size) o (by first | omega | (simp; done) | (simp; omega))
          have d4_1 := fun o => hf4 (wr.heap.size) o (by first | omega | (simp; done) | (simp; omega))
          have z4_2 : w3.heap.size < w4.heap.size := (by first | omega | (simp at z4; omega))
          have c4_2 := fun o => hc4 (w3.heap.size) o (by first | omega | (simp; done) | (simp; omega))
          have d4_2 := fun o => hf4 (w3.heap.size) o (by first | omega | (simp; done) | (simp; omega))
          have z4_3 : w3.heap.size + 1 < w4.heap.size := (by first | omega | (simp at z4; omega))
          have c4_3 := fun o => hc4 (w3.heap.size + 1) o (by first | omega | (simp; done) | (simp; omega))
          have d4_3 := fun o => hf4 (w3.heap.size + 1) o (by first | omega | (simp; done) | (simp; omega))
          clear hc4 hf4
          go_wp2_with ((go_at_call 17; refine (Owner_any _ _).mono ?_; rintro e w' ⟨rfl, rfl⟩))
          go_wp2_with fail
          go_at_call 9
          refine (Runs_val _ _ _ _ k44.out _).mono ?_
          rintro e w5 ⟨rfl, hb5⟩
          obtain ⟨hc5, hf5⟩ := bcell hb5
          have z5 := hb5.size
          try simp at z5
          have z5_0 : w1.heap.size < w5.heap.size := (by first | omega | (simp at z5; omega))
          have c5_0 := fun o => hc5 (w1.heap.size) o (by first | omega | (simp; done) | (simp; omega))
          have d5_0 := fun o => hf5 (w1.heap.size) o (by first | omega | (simp; done) | (simp; omega))
          have z5_1 : wr.heap.size < w5.heap.size := (by first | omega | (simp at z5; omega))
          have c5_1 := fun o => hc5 (wr.heap.size) o (by first | omega | (simp; done) | (simp; omega))
          have d5_1 := fun o => hf5 (wr.heap.size) o (by first | omega | (simp; done) | (simp; omega))
          have z5_2 : w3.heap.size < w5.heap.size := (by first | omega | (simp at z5; omega))
          have c5_2 := fun o => hc5 (w3.heap.size) o (by first | omega | (simp; done) | (simp; omega))
          have d5_2 := fun o => hf5 (w3.heap.size) o (by first | omega | (simp; done) | (simp; omega))
          have z5_3 : w3.heap.size + 1 < w5.heap.size := (by first | omega | (simp at z5; omega))
          have c5_3 := fun o => hc5 (w3.heap.size + 1) o (by first | omega | (simp; done) | (simp; omega))
          have d5_3 := fun o => hf5 (w3.heap.size + 1) o (by first | omega | (simp; done) | (simp; omega))
          clear hc5 hf5
          go_wp2_with fail
          have q5_0 : w5.cell? ⟨w1.heap.size, 0, none⟩ = some (.string o) := by simp [go_sem, *]
          have q5_1 : w5.cell? ⟨w1.heap.size, 1, none⟩ = some (.int .u64 u) := by simp [go_sem, *]
          have r5_0 : w5.frozen? ⟨w1.heap.size, 0, none⟩ = false := by simp [go_sem, *]
          have r5_1 : w5.frozen? ⟨w1.heap.size, 1, none⟩ = false := by simp [go_sem, *]
          clear c5_0 d5_0
          exact ⟨⟨k + 1, o, v, true, t, by omega, rfl, rfl, by go_num, by omega, by omega, by simp [go_sem, *], by simp [go_sem, *], by simp [go_sem, *], by simp [go_sem, *], (by repeat' first | (with_reducible exact Below.refl _ _) | (with_reducible refine Below.setCell ?_ ?_ _) | (with_reducible refine Below.alloc ?_ ?_ _) | (with_reducible refine Below.drew ?_) | (with_reducible refine Below.trans ?_ (Below.mono (by assumption) ?_)) | omega | (simp; done) | (simp; omega)), by first | omega | (simp; done) | (simp; omega)⟩, by simp [intOf]; omega⟩
        · replace hx := Lib.hid hx
          subst k1
          subst k6
          subst k8
          replace k7 := Lib.hid k7
          go_wp2_with fail
          go_at_call 15
          refine (does_val _ _ _ _ _ _ _ _ _ _ hx.out _ (by omega) (by omega) (by omega) (by omega) f1 f2).mono ?_
          rintro e w3 ⟨rfl, hb3⟩
          obtain ⟨hc3, hf3⟩ := bcell hb3
          have z3 := hb3.size
          try simp at z3
          have z3_0 : w1.heap.size < w3.heap.size := (by first | omega | (simp at z3; omega))
          have c3_0 := fun o => hc3 (w1.heap.size) o (by first | omega | (simp; done) | (simp; omega))
          have d3_0 := fun o => hf3 (w1.heap.size) o (by first | omega | (simp; done) | (simp; omega))
          have z3_1 : wr.heap.size < w3.heap.size := (by first | omega | (simp at z3; omega))
          have c3_1 := fun o => hc3 (wr.heap.size) o (by first | omega | (simp; done) | (simp; omega))
          have d3_1 := fun o => hf3 (wr.heap.size) o (by first | omega | (simp; done) | (simp; omega))
          clear hc3 hf3
          go_wp2_with fail
          go_at_call 9
          refine (Runs_val _ _ _ _ k7.out _).mono ?_
          rintro e w4 ⟨rfl, hb4⟩
          obtain ⟨hc4, hf4⟩ := bcell hb4
          have z4 := hb4.size
          try simp at z4
          have z4_0 : w1.heap.size < w4.heap.size := (by first | omega | (simp at z4; omega))
          have c4_0 := fun o => hc4 (w1.heap.size) o (by first | omega | (simp; done) | (simp; omega))
          have d4_0 := fun o => hf4 (w1.heap.size) o (by first | omega | (simp; done) | (simp; omega))
          have z4_1 : wr.heap.size < w4.heap.size := (by first | omega | (simp at z4; omega))
          have c4_1 := fun o => hc4 (wr.heap.size) o (by first | omega | (simp; done) | (simp; omega))
          have d4_1 := fun o => hf4 (wr.heap.size) o (by first | omega | (simp; done) | (simp; omega))
          have z4_2 : w3.heap.size < w4.heap.size := (by first | omega | (simp at z4; omega))
          have c4_2 := fun o => hc4 (w3.heap.size) o (by first | omega | (simp; done) | (simp; omega))
          have d4_2 := fun o => hf4 (w3.heap.size) o (by first | omega | (simp; done) | (simp; omega))
          have z4_3 : w3.heap.size + 1 < w4.heap.size := (by first | omega | (simp at z4; omega))
          have c4_3 := fun o => hc4 (w3.heap.size + 1) o (by first | omega | (simp; done) | (simp; omega))
          have d4_3 := fun o => hf4 (w3.heap.size + 1) o (by first | omega | (simp; done) | (simp; omega))
          clear hc4 hf4
          go_wp2_with ((go_at_call 17; refine (Owner_any _ _).mono ?_; rintro e w' ⟨rfl, rfl⟩))
          have q5_0 : w4.cell? ⟨w1.heap.size, 0, none⟩ = some (.string o) := by simp [go_sem, *]
          have q5_1 : w4.cell? ⟨w1.heap.size, 1, none⟩ = some (.int .u64 u) := by simp [go_sem, *]
          have r5_0 : w4.frozen? ⟨w1.heap.size, 0, none⟩ = false := by simp [go_sem, *]
          have r5_1 : w4.frozen? ⟨w1.heap.size, 1, none⟩ = false := by simp [go_sem, *]
          clear c4_0 d4_0
          exact ⟨⟨k + 1, ⟨#[]⟩, 0, false, t, by omega, rfl, rfl, by go_num, by omega, by omega, by simp [go_sem, *], by simp [go_sem, *], by simp [go_sem, *], by simp [go_sem, *], (by repeat' first | (with_reducible exact Below.refl _ _) | (with_reducible refine Below.setCell ?_ ?_ _) | (with_reducible refine Below.alloc ?_ ?_ _) | (with_reducible refine Below.drew ?_) | (with_reducible refine Below.trans ?_ (Below.mono (by assumption) ?_)) | omega | (simp; done) | (simp; omega)), by first | omega | (simp; done) | (simp; omega)⟩, by simp [intOf]; omega⟩
        · replace hx := Lib.hid hx
          subst k1
          subst k6
          subst k8
          replace k7 := Lib.hid k7
          go_wp2_with fail
          go_at_call 15
          refine (does_val _ _ _ _ _ _ _ _ _ _ hx.out _ (by omega) (by omega) (by omega) (by omega) f1 f2).mono ?_
          rintro e w3 ⟨rfl, hb3⟩
          obtain ⟨hc3, hf3⟩ := bcell hb3
          have z3 := hb3.size
          try simp at z3
          have z3_0 : w1.heap.size < w3.heap.size := (by first | omega | (simp at z3; omega))
          have c3_0 := fun o => hc3 (w1.heap.size) o (by first | omega | (simp; done) | (simp; omega))
          have d3_0 := fun o => hf3 (w1.heap.size) o (by first | omega | (simp; done) | (simp; omega))
          have z3_1 : wr.heap.size < w3.heap.size := (by first | omega | (simp at z3; omega))
          have c3_1 := fun o => hc3 (wr.heap.size) o (by first | omega | (simp; done) | (simp; omega))
          have d3_1 := fun o => hf3 (wr.heap.size) o (by first | omega | (simp; done) | (simp; omega))
          clear hc3 hf3
          go_wp2_with fail
          go_at_call 9
          refine (Runs_val _ _ _ _ k7.out _).mono ?_
          rintro e w4 ⟨rfl, hb4⟩
          obtain ⟨hc4, hf4⟩ := bcell hb4
          have z4 := hb4.size
          try simp at z4
          have z4_0 : w1.heap.size < w4.heap.size := (by first | omega | (simp at z4; omega))
          have c4_0 := fun o => hc4 (w1.heap.size) o (by first | omega | (simp; done) | (simp; omega))
          have d4_0 := fun o => hf4 (w1.heap.size) o (by first | omega | (simp; done) | (simp; omega))
          have z4_1 : wr.heap.size < w4.heap.size := (by first | omega | (simp at z4; omega))
          have c4_1 := fun o => hc4 (wr.heap.size) o (by first | omega | (simp; done) | (simp; omega))
          have d4_1 := fun o => hf4 (wr.heap.size) o (by first | omega | (simp; done) | (simp; omega))
          have z4_2 : w3.heap.size < w4.heap.size := (by first | omega | (simp at z4; omega))
          have c4_2 := fun o => hc4 (w3.heap.size) o (by first | omega | (simp; done) | (simp; omega))
          have d4_2 := fun o => hf4 (w3.heap.size) o (by first | omega | (simp; done) | (simp; omega))
          have z4_3 : w3.heap.size + 1 < w4.heap.size := (by first | omega | (simp at z4; omega))
          have c4_3 := fun o => hc4 (w3.heap.size + 1) o (by first | omega | (simp; done) | (simp; omega))
          have d4_3 := fun o => hf4 (w3.heap.size + 1) o (by first | omega | (simp; done) | (simp; omega))
          clear hc4 hf4
          go_wp2_with ((go_at_call 17; refine (Owner_any _ _).mono ?_; rintro e w' ⟨rfl, rfl⟩))
          have q5_0 : w4.cell? ⟨w1.heap.size, 0, none⟩ = some (.string o) := by simp [go_sem, *]
          have q5_1 : w4.cell? ⟨w1.heap.size, 1, none⟩ = some (.int .u64 u) := by simp [go_sem, *]
          have r5_0 : w4.frozen? ⟨w1.heap.size, 0, none⟩ = false := by simp [go_sem, *]
          have r5_1 : w4.frozen? ⟨w1.heap.size, 1, none⟩ = false := by simp [go_sem, *]
          clear c4_0 d4_0
          exact ⟨⟨k + 1, dst, u, true, t, by omega, rfl, rfl, by go_num, by omega, by omega, by simp [go_sem, *], by simp [go_sem, *], by simp [go_sem, *], by simp [go_sem, *], (by repeat' first | (with_reducible exact Below.refl _ _) | (with_reducible refine Below.setCell ?_ ?_ _) | (with_reducible refine Below.alloc ?_ ?_ _) | (with_reducible refine Below.drew ?_) | (with_reducible refine Below.trans ?_ (Below.mono (by assumption) ?_)) | omega | (simp; done) | (simp; omega)), by first | omega | (simp; done) | (simp; omega)⟩, by simp [intOf]; omega⟩
      · have hkn : k = n := by omega
        subst hkn
        go_wp2_with ((go_at_call 10; refine (awake_any _).mono ?_; rintro e w' ⟨rfl, hb⟩; obtain ⟨hc, hf⟩ := bcell hb; have hz := hb.size; clear hc hf))
        go_ret
        exact ⟨rfl, (by repeat' first | (with_reducible exact Below.refl _ _) | (with_reducible refine Below.setCell ?_ ?_ _) | (with_reducible refine Below.alloc ?_ ?_ _) | (with_reducible refine Below.drew ?_) | (with_reducible refine Below.trans ?_ (Below.mono (by assumption) ?_)) | omega | (simp; done) | (simp; omega))⟩
  · go_wp2_with ((go_at_call 10; refine (awake_any _).mono ?_; rintro e w' ⟨rfl, hb⟩; obtain ⟨hc, hf⟩ := bcell hb; have hz := hb.size; clear hc hf))
    go_ret
    exact ⟨rfl, (by repeat' first | (with_reducible exact Below.refl _ _) | (with_reducible refine Below.setCell ?_ ?_ _) | (with_reducible refine Below.alloc ?_ ?_ _) | (with_reducible refine Below.drew ?_) | (with_reducible refine Below.trans ?_ (Below.mono (by assumption) ?_)) | omega | (simp; done) | (simp; omega))⟩
end Go.Proofs.Yticnnmoheijjdaa
