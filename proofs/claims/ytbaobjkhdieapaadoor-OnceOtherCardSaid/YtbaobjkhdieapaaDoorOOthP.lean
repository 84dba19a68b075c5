/- OnceOther: the tied card: for any row of keys with values, any client, numbers and answer the law returns true, and its arguments read as before. No condition. -/
import Derived.Test.YtbaobjkhdieapaaDoorOOther
import Derived.Test.YtbaobjkhdieapaaDoorOOpen
import Derived.Test.YtbaobjkhdieapaaDoorCards
import Derived.Test.YtbaobjkhdieapaaDoorTie
import Derived.SizedLaws
namespace Go.Proofs.YtbaobjkhdieapaaDoor
open Go.ChangeShapes Go.WideShapes Go.ChangeAt Go.RowKit Go.Joins Go.Deep
open Go.ChangeMaps (open_string)
set_option linter.unusedVariables false
set_option linter.unusedSimpArgs false

theorem weightsAll_mem {H : Type} {P : Program} {e : TypeId} : ∀ {l : List (DataW H)} {d : DataW H}, d ∈ l → ∀ n ∈ d.weights P e, n ∈ DataW.weightsAll P e l
  | [], d, h, _, _ => by cases h
  | x :: l, d, h, n, hn => by
    simp only [DataW.weightsAll, List.mem_append]
    rcases List.mem_cons.1 h with rfl | h
    · exact .inl hn
    · exact .inr (weightsAll_mem h n hn)

set_option maxRecDepth 100000 in
set_option maxHeartbeats 1000000 in
theorem others_open {H : Type} {enc : TypeId × Value → H} {W : World} {base : Nat} {v : Value} {d : DataW H} {p : List MemPlace}
    (hv : Value.okWide Tryd.prog W .any base 28 v) (h : DataW.Trod enc Tryd.prog W 0 (fun _ => true) true 28 v d p) (hp : ∀ x ∈ p, x.block < W.heap.size) (hwt : ∀ n ∈ d.weights Tryd.prog 28, n ≤ reachBytes) :
    ∃ A l cap, v = .slice A l.length cap ∧ Reads W W.heap.size 3 A l.length (opsV l) ∧ l.length ≤ maxLen ∧ ∀ x ∈ l, OthOk x := by
  obtain ⟨A, n, cap, rfl⟩ := okWide_slice Tryd.underlying28 hv
  obtain ⟨fuel, hf⟩ := h
  rcases open_slice_fields Tryd.underlying28 Tryd.underlying24 (by kernel_rfl) (by kernel_rfl) hf with ⟨hcs, hx⟩ | ⟨a, len, cap', m, D, Pl, hcs, hb, hl, hm, hmm, hx, hi⟩
  · simp [Value.cells] at hcs
    obtain ⟨rfl, rfl, rfl⟩ := hcs
    exact ⟨none, [], 0, rfl, Reads.none_, by simp, by simp⟩
  · simp [Value.cells] at hcs
    obtain ⟨rfl, rfl, rfl⟩ := hcs
    simp at hmm
    subst hmm
    by_cases hn0 : n = 0
    · subst hn0
      exact ⟨some a, [], m, rfl, ⟨rfl, fun h => absurd h (by simp)⟩, by simp, by simp⟩
    have hpl : a = ⟨a.block, a.off, none⟩ := by
      obtain ⟨ys, n0, h1, h2, h3, h4⟩ := hi 0 (by omega)
      obtain ⟨v, y, hc, _, _⟩ := h4 0 _ rfl
      have e0 : a.add (0 * 3 + 0) = a := by unfold Addr.add; simp
      have hc' := plain_of_cell hc
      rw [show (#[_, _, _] : Array Field).size = 3 from rfl] at hc'
      rw [e0] at hc'
      exact hc'
    have hblk : a.block < W.heap.size := by
      have hx2 := (Prod.mk.inj hx).2
      exact hp (.cell a.block a.off) (by rw [hx2]; refine List.mem_append_left _ ?_; rw [hpl]; simp [MemPlace.row]; omega)
    have hd := (Prod.mk.inj hx).1
    have hall : ∀ k, k < n → ∃ x : Op3, W.cell? (a.add (k * 3)) = some (.string x.key) ∧ W.cell? (a.add (k * 3 + 1)) = some (.string x.val) ∧ W.cell? (a.add (k * 3 + 2)) = some (.bool x.gone) ∧ OthOk x := by
      intro k hk
      obtain ⟨ys, n0, h1, h2, h3, h4⟩ := hi k (by omega)
      obtain ⟨v0, y0, c0, g0, t0⟩ := h4 0 _ rfl
      obtain ⟨v1, y1, c1, g1, t1⟩ := h4 1 _ rfl
      obtain ⟨v2, y2, c2, g2, t2⟩ := h4 2 _ rfl
      obtain ⟨x0, e0, f0, w0⟩ := DataW.trod_string Tryd.underlying9 t0
      obtain ⟨x1, e1, f1, w1⟩ := DataW.trod_string Tryd.underlying9 t1
      obtain ⟨x2, e2, f2⟩ := DataW.trod_bool Tryd.underlying4 t2
      subst f0 f1 f2
      simp at e0 e1 e2
      subst e0 e1 e2
      rw [show (#[_, _, _] : Array Field).size = 3 from rfl] at c0 c1 c2
      have hmem : ∀ (j : Nat) (z : DataW H), (ys.map (·.1))[j]? = some z → ∀ t, (#[9, 9, 4] : Array TypeId).toList[j]? = some t → ∀ q ∈ z.weights Tryd.prog t, q ≤ reachBytes := by
        intro j z hz t ht q hq
        refine hwt q ?_
        rw [hd]
        simp only [DataW.weights, Tryd.underlying28]
        refine List.mem_cons_of_mem _ (List.mem_append_left _ (weightsAll_mem (d := D k) (List.mem_map_of_mem (List.mem_range.2 hk)) q ?_))
        rw [h1]
        simp only [DataW.weights, Tryd.underlying24]
        exact DataW.weights_mem_each ht hz q hq
      have s0 := hmem 0 _ (by rw [List.getElem?_map, g0]; rfl) _ rfl x0.data.toList.length (by simp [DataW.weights])
      have s1 := hmem 1 _ (by rw [List.getElem?_map, g1]; rfl) _ rfl x1.data.toList.length (by simp [DataW.weights])
      rw [dlen] at s0 s1
      have hrb : reachBytes ≤ 140737488355328 := by unfold reachBytes; omega
      refine ⟨⟨x0, x1, x2⟩, ?_, c1, c2, ⟨by simp only []; omega, by simp only []; omega⟩⟩
      simpa using c0
    obtain ⟨l, hl2, hP⟩ := list_of n hall
    refine ⟨some a, l, m, by rw [hl2], ⟨opsV_len l, fun hn => ⟨a, rfl, hblk, fun j u hu => ?_⟩⟩, by rw [hl2]; omega, fun x hx => ?_⟩
    · have hj : j < l.length * 3 := by
        rcases Nat.lt_or_ge j (l.length * 3) with h | h
        · exact h
        · rw [List.getElem?_eq_none (by rw [opsV_len]; exact h)] at hu; cases hu
      have hk : j / 3 < l.length := by omega
      have hget := List.getElem?_eq_getElem hk
      obtain ⟨p0, p1, p2, _⟩ := hP _ _ hget
      obtain ⟨q0, q1, q2⟩ := opsV_at l _ _ hget
      have hr : j = j / 3 * 3 ∨ j = j / 3 * 3 + 1 ∨ j = j / 3 * 3 + 2 := by omega
      rcases hr with e | e | e <;> rw [e] at hu ⊢
      · rw [p0]; rw [q0] at hu; exact hu
      · rw [p1]; rw [q1] at hu; exact hu
      · rw [p2]; rw [q2] at hu; exact hu
    · obtain ⟨i, hi2, rfl⟩ := List.mem_iff_getElem.1 hx
      exact (hP i _ (List.getElem?_eq_getElem hi2)).2.2.2

set_option maxRecDepth 100000 in
theorem other_call {H : Type} {enc : TypeId × Value → H} {W : World} {base : Nat} {v : Value} {d : DataW H} {p : List MemPlace}
    (hv : Value.okWide Tryd.prog W .any base 28 v) (h : DataW.Trod enc Tryd.prog W 0 (fun _ => true) true 28 v d p) (hp : ∀ x ∈ p, x.block < W.heap.size) (hwt : ∀ n ∈ d.weights Tryd.prog 28, n ≤ reachBytes)
    (c n m : Int) (a : ByteArray) (hc : 0 ≤ c ∧ c ≤ 255) (hn : 0 ≤ n ∧ n ≤ 18446744073709551615) (hm : 0 ≤ m ∧ m ≤ 18446744073709551615) (ha : a.size ≤ maxLen) :
    Calls Tryd.prog 6 #[v, .int .u8 c, .int .u64 n, .int .u64 m, .string a] W fun e w' => e = .returned (.bool true) ∧ Below W.heap.size W w' := by
  obtain ⟨A, l, cap, rfl, hr, hl, hx⟩ := others_open hv h hp hwt
  have := other_walk A l cap c.toNat n.toNat m.toNat a W hr (by unfold maxLen at hl; omega) hx (by omega) (by omega) (by omega) (by unfold maxLen at ha; omega)
  rw [show ((c.toNat : Nat) : Int) = c from by omega, show ((n.toNat : Nat) : Int) = n from by omega, show ((m.toNat : Nat) : Int) = m from by omega] at this
  exact this

set_option maxRecDepth 100000 in
theorem oother_lifted (os : Os) (started : os.Started) (H : Type) (enc : TypeId × Value → H) :
    ReturnsInHanded {} Tryd.checked os 6 .any (fun w args => (Rows.onceOtherSpec.pre enc Tryd.prog Tryd.f6 Rows.onceOtherRow.domain false w args ∧ laidMetH Tryd.prog Rows.onceOtherRow.laid w) ∧ sizedMet enc Tryd.prog Tryd.f6 (OpenSpec.ofChange Rows.onceOtherSpec) false w args)
      (Rows.onceOtherSpec.post enc Tryd.prog Tryd.f6 false true false false) := by
  refine returnsInHanded_of_change_and (C := Tryd.checked) (X := fun w _ => laidMetH Tryd.prog Rows.onceOtherRow.laid w) (fun _ _ _ hh h => h.of_heap hh) Trydown started (by kernel_rfl) Tryd.func6
    (ChangeSpec.witness_shaped (enc := enc) (C := Tryd.checked) (os := os) (X := fun w _ => laidMetH Tryd.prog Rows.onceOtherRow.laid w) false (World.laidAll Tryd.prog os Rows.onceOtherRow.laid) #[.slice none 0 0, .int .u8 0, .int .u64 0, .int .u64 0, .string ⟨#[]⟩] 8 (World.laidAll_os _ _ _)
      (World.shaped_of_ZipB (by kernel_rfl) (by kernel_rfl)) (by kernel_rfl) (by kernel_rfl) (by kernel_rfl)
      (by rw [MakeChecks.laidMetH_plain _ _ _ (by kernel_rfl)]; exact laidMet_laidAll _ (by kernel_rfl) (by kernel_rfl))) ?_
  intro W base args ds gs before hval0 hW hc hwt hL _
  have hval : ∀ (j : Nat) t v, Tryd.f6.params[j]? = some t → args[j]? = some v → Value.okWide Tryd.prog W .any base t v := hval0
  have hW0 := hW
  have hlt := hW.lt
  obtain ⟨p, q, hA0, hV, rfl, _, _⟩ := hW
  have hA : DataW.TrodAll enc Tryd.prog W 0 (fun _ => true) true Tryd.f6.params.toList args.toList ds p := hA0
  rw [Tryd.params6] at hA hval
  obtain ⟨v0, vs0, d0, ds0, p0, q0, hargs, rfl, rfl, h0, r0⟩ := trodAll_cons hA
  obtain ⟨v1, vs1, d1, ds1, p1, q1, rfl, rfl, rfl, h1, r1⟩ := trodAll_cons r0
  obtain ⟨v2, vs2, d2, ds2, p2, q2, rfl, rfl, rfl, h2, r2⟩ := trodAll_cons r1
  obtain ⟨v3, vs3, d3, ds3, p3, q3, rfl, rfl, rfl, h3, r3⟩ := trodAll_cons r2
  obtain ⟨v4, vs4, d4, ds4, p4, q4, rfl, rfl, rfl, h4, r4⟩ := trodAll_cons r3
  obtain ⟨rfl, rfl, rfl⟩ := trodAll_nil r4
  obtain rfl : args = #[v0, v1, v2, v3, v4] := by cases args; simp_all
  obtain ⟨rfl, rfl⟩ := trodVars_none hV
  have others := And.intro (hval 0 28 v0 rfl rfl) h0
  obtain ⟨client, rfl, rfl, rfl, w_client⟩ := open_int Tryd.underlying5 (hval 1 5 v1 rfl rfl) h1
  have b_client := bounds_u8 w_client
  obtain ⟨number, rfl, rfl, rfl, w_number⟩ := open_int Tryd.underlying26 (hval 2 26 v2 rfl rfl) h2
  have b_number := bounds_u64 w_number
  obtain ⟨asked, rfl, rfl, rfl, w_asked⟩ := open_int Tryd.underlying26 (hval 3 26 v3 rfl rfl) h3
  have b_asked := bounds_u64 w_asked
  obtain ⟨answer, rfl, rfl, rfl, s_answer⟩ := open_string Tryd.underlying9 (hval 4 9 v4 rfl rfl) h4
  refine (other_call others.1 others.2 (fun x hx => by simpa using hlt x (by simp [hx])) (fun n hn => by simpa using List.all_eq_true.1 hwt n (DataW.weights_mem_each (j := 0) rfl rfl n hn)) client number asked answer b_client b_number b_asked s_answer).mono fun e W' ⟨he, hb⟩ => ⟨_, he, ?_⟩
  exact law_post Trydlaid Tryd.underlying4 hW0 rfl rfl (by kernel_rfl) rfl hb

theorem oother_said : Rows.OnceOtherSaid :=
  OpenClaim.holds_of_wide 6 Tryd.f6 rfl rfl rfl rfl rfl rfl rfl ⟨rfl, rfl, rfl, rfl, rfl⟩ rfl rfl rfl rfl rfl (by kernel_rfl) Tryd.func6 (by kernel_rfl)
    (of_decide_eq_true (by kernel_rfl)) (by unfold Func.isWrapper; first | (rw [if_pos (by decide +kernel)]; kernel_rfl) | (rw [if_neg (by decide +kernel)]; exact ⟨rfl, rfl⟩))
    (fun os started H enc _ => oother_lifted os started H enc)

theorem oother_holds : Rows.OnceOtherCardSaid :=
  Claim7.holds_tied_plain_at .later [] _ _ _ _ oother_said (fun _ h => by cases h) (by kernel_rfl) (fun _ h => by cases h) onceOther_row_tie rfl ⟨rfl, rfl⟩ (by kernel_rfl) rfl
    (fun f fn hf hfn => by
      obtain rfl : f = 6 := Option.some.inj ((show Tryd.prog.funcNamed "copyhold/copyholdlaw27.OnceOther" = some 6 by kernel_rfl).symm.trans hf) |>.symm
      obtain rfl : fn = Tryd.f6 := (Option.some.inj (Tryd.func6.symm.trans hfn)).symm
      refine ⟨by kernel_rfl, fun j t ht => ?_⟩
      have hall : (Tryd.f6.params.toList.all fun u => !Tryd.prog.wantsStandIn u) = true := by kernel_rfl
      have hm : t ∈ Tryd.f6.params.toList := by simpa using Array.mem_of_getElem? ht
      have h2 : Tryd.prog.wantsStandIn t = false := by simpa using List.all_eq_true.1 hall t hm
      exact h2)
    (by kernel_rfl)

#print axioms oother_holds
end Go.Proofs.YtbaobjkhdieapaaDoor
