/- Package wal, plain: a round, step by step. No program in sight. Contracts of the law: goes. -/
import Derived.Test.YtdbpfemkjfogoaaGreatDoorM15
namespace Go.Proofs.YtdbpfemkjfogoaaGreatDoor
set_option linter.unusedVariables false
set_option linter.unusedSimpArgs false
/-- A disk whose log n is written to. -/
def RunS (s : Dsk) (n M : Nat) : Prop := ∃ (l : List LogE) (f : Nat) (bs : List BatE), Cl s (l ++ [(n, f, logL bs)]) ∧ s.off = false ∧ (∀ b ∈ bs, chkB b = 0) ∧ ∀ q ∈ l ++ [((n, f, logL bs) : LogE)], q.1 ≤ M
section
variable {s : Dsk} {n M : Nat}
theorem RunS.add (h : RunS s n M) (b : BatE) : ((s.addW n b).2 = 0 ∧ RunS (s.addW n b).1 n M) ∨ ((s.addW n b).2 ≠ 0 ∧ (s.addW n b).2 ≠ 7 ∧ (s.addW n b).1 = s) ∨ (s.addW n b).2 = 7 := by
  obtain ⟨l, f, bs, h1, h2, h3, h4⟩ := h
  by_cases hc : chkB b = 0
  · rcases h1.add h2 hc with ⟨e, hof, hC⟩ | ⟨e, es⟩ | ⟨e, _⟩
    · rw [← logL_snoc] at hC
      refine .inl ⟨e, l, f, bs ++ [b], hC, hof, fun x hx => ?_, fun q hq => ?_⟩
      · rcases List.mem_append.1 hx with hx | hx
        · exact h3 x hx
        · rw [List.mem_singleton.1 hx]; exact hc
      · rcases List.mem_append.1 hq with hq | hq
        · exact h4 q (List.mem_append_left _ hq)
        · rw [List.mem_singleton.1 hq]; exact h4 (n, f, logL bs) (by simp)
    · exact .inr (.inl ⟨by rw [e]; decide, by rw [e]; decide, es⟩)
    · exact .inr (.inr e)
  · have ea : s.addW n b = (s, chkB b) := by unfold Dsk.addW; rw [if_neg hc]
    rw [ea]
    refine .inr (.inl ⟨hc, ?_, rfl⟩)
    simp only
    rcases chkB_cases b with e | e | e <;> omega
theorem Cl.nextS {l : List LogE} (h : Cl s l) (ok : s.Ok) (hd : s.Dir) (hoff : s.off = false) (hM : ∀ q ∈ l, q.1 ≤ M) (hb : M + 1 < 18446744073709551616) : (s.nextW.2 = 0 ∧ RunS s.nextW.1 (nextN s.logsW) (M + 1)) ∨ s.nextW.2 = 7 := by
  obtain ⟨a1, a2⟩ := next_above h M hM
  unfold Dsk.nextW
  rw [h.logs hd]
  generalize nextN (l.map (·.1)) = n2 at *
  rcases h.begin ok hoff a1 (by omega) with ⟨e, hof, hC⟩ | ⟨e, _⟩
  · refine .inl ⟨e, l, s.files.length, [], hC, hof, (fun x hx => by cases hx), fun q hq => ?_⟩
    rcases List.mem_append.1 hq with hq | hq
    · have := hM q hq; omega
    · rw [List.mem_singleton.1 hq]; exact a2
  · exact .inr e
theorem RunS.next (h : RunS s n M) (ok : s.Ok) (hd : s.Dir) (hb : M + 1 < 18446744073709551616) : (s.nextW.2 = 0 ∧ RunS s.nextW.1 (nextN s.logsW) (M + 1)) ∨ s.nextW.2 = 7 := by
  obtain ⟨l, f, bs, h1, h2, h3, h4⟩ := h
  exact h1.nextS ok hd h2 h4 hb
theorem Cl.raws {l : List LogE} (h : Cl s l) (hd : s.Dir) (hr : s.names.Pairwise fun p q => bytesBefore p.1 q.1 = true) (hM : ∀ q ∈ l, q.1 ≤ M) (hb : M < 100000000) : s.rawW.Pairwise (· ≤ ·) ∧ ∀ n ∈ s.logsW, n ≤ M := by
  refine ⟨h.raw hr (fun q hq => by have := hM q hq; omega), fun n hn => ?_⟩
  rw [h.logs hd, List.mem_map] at hn
  obtain ⟨q, hq, rfl⟩ := hn
  exact hM q hq
theorem RunS.raws (h : RunS s n M) (hd : s.Dir) (hr : s.names.Pairwise fun p q => bytesBefore p.1 q.1 = true) (hb : M < 100000000) : s.rawW.Pairwise (· ≤ ·) ∧ ∀ n ∈ s.logsW, n ≤ M := by
  obtain ⟨l, f, bs, h1, h2, h3, h4⟩ := h
  exact h1.raws hd hr h4 hb
theorem RunS.num (h : RunS s n M) : n ≤ M := by
  obtain ⟨l, f, bs, h1, h2, h3, h4⟩ := h
  exact h4 (n, f, logL bs) (by simp)
end
/-- A step of goW, its log's number being the one that is written to. -/
theorem goW_cons (b : BatE) (w : Bool) (r : List (BatE × Bool)) (s : Dsk) (n : Nat) : goW ((b, w) :: r) s n =
    if (if w then s.nextW else (s, 0)).2 = 7 then ((if w then s.nextW else (s, 0)).1, [], []) else
      if ((if w then s.nextW else (s, 0)).1.addW (if w then nextN s.logsW else n) b).2 = 7 then (((if w then s.nextW else (s, 0)).1.addW (if w then nextN s.logsW else n) b).1, [], [b]) else
        ((goW r ((if w then s.nextW else (s, 0)).1.addW (if w then nextN s.logsW else n) b).1 (if w then nextN s.logsW else n)).1,
          (if ((if w then s.nextW else (s, 0)).1.addW (if w then nextN s.logsW else n) b).2 = 0 then b :: (goW r ((if w then s.nextW else (s, 0)).1.addW (if w then nextN s.logsW else n) b).1 (if w then nextN s.logsW else n)).2.1 else (goW r ((if w then s.nextW else (s, 0)).1.addW (if w then nextN s.logsW else n) b).1 (if w then nextN s.logsW else n)).2.1),
          (goW r ((if w then s.nextW else (s, 0)).1.addW (if w then nextN s.logsW else n) b).1 (if w then nextN s.logsW else n)).2.2) := by
  conv => lhs; unfold goW
/-- What is told so far, and what a round's rest tells. -/
def RestW (R : Dsk × List BatE × List BatE) (told : List BatE) (r : List (BatE × Bool)) (s : Dsk) (n : Nat) : Prop := R = ((goW r s n).1, told ++ (goW r s n).2.1, (goW r s n).2.2)
section
variable {R : Dsk × List BatE × List BatE} {told : List BatE} {b : BatE} {r : List (BatE × Bool)} {s : Dsk} {n : Nat}
theorem RestW.fail (h : RestW R told ((b, true) :: r) s n) (e : s.nextW.2 = 7) : R = (s.nextW.1, told, []) := by
  unfold RestW at h
  rw [h, goW_cons]
  simp only [if_true]
  rw [if_pos e]
  simp
theorem RestW.down (h : RestW R told ((b, false) :: r) s n) (e : (s.addW n b).2 = 7) : R = ((s.addW n b).1, told, [b]) := by
  unfold RestW at h
  rw [h, goW_cons]
  simp only [Bool.false_eq_true, if_false]
  rw [if_neg (by decide), if_pos e]
  simp
theorem RestW.step (h : RestW R told ((b, false) :: r) s n) (e : (s.addW n b).2 ≠ 7) : RestW R (if (s.addW n b).2 = 0 then told ++ [b] else told) r (s.addW n b).1 n := by
  unfold RestW at h ⊢
  rw [h, goW_cons]
  simp only [Bool.false_eq_true, if_false]
  rw [if_neg (by decide), if_neg e]
  by_cases h0 : (s.addW n b).2 = 0
  · rw [if_pos h0, if_pos h0]
    simp
  · rw [if_neg h0, if_neg h0]
theorem RestW.turn (h : RestW R told ((b, true) :: r) s n) (e : s.nextW.2 ≠ 7) : RestW R told ((b, false) :: r) s.nextW.1 (nextN s.logsW) := by
  unfold RestW at h ⊢
  rw [h, goW_cons, goW_cons]
  simp only [Bool.false_eq_true, if_false, if_true]
  rw [if_neg e, if_neg (by decide : ¬ (0 : Nat) = 7)]
theorem RestW.done (h : RestW R told [] s n) : R = (s, told, []) := by
  unfold RestW at h
  rw [h]
  simp [goW]
end
theorem rows_at (r : RoundE) (i : Nat) (b : BatE) (h : r.bats[i]? = some b) : r.rows.drop i = (b, r.nw.getD i false) :: r.rows.drop (i + 1) := by
  have hi := (List.getElem?_eq_some_iff.1 h).1
  have hl := rows_len r
  have hr : r.rows[i]? = some (b, r.nw.getD i false) := by
    unfold RoundE.rows
    rw [List.getElem?_zipWith, List.getElem?_range hi, h]
  rw [List.drop_eq_getElem_cons (by omega)]
  obtain ⟨_, e⟩ := List.getElem?_eq_some_iff.1 hr
  rw [e]
end Go.Proofs.YtdbpfemkjfogoaaGreatDoor
namespace Go.Proofs.YtdbpfemkjfogoaaGreatDoor
open Go.RowKit
set_option linter.unusedVariables false
set_option linter.unusedSimpArgs false
/-- What a round leaves. -/
structure GoF (X0 : Nat → Prop) (w wr : World) (X : Nat → Prop) (d : Nat) (R : Dsk × List BatE × List BatE) (tv uv : Value) (told under bats : List MB) (mm : Nat) : Prop where
  go : GoI X0 w wr X d R.1 tv told
  row : wr.ownsRow w.heap.size 53 2 uv under.length (mbV under)
  inX : ∀ k, uv.ownBlock = some k → X k
  eqT : told.map (·.b) = R.2.1
  eqU : under.map (·.b) = R.2.2
  memT : ∀ x ∈ told, x ∈ bats
  memU : ∀ x ∈ under, x ∈ bats
  good : R.1.Good mm
/-- A round under way. -/
structure GoA (X0 : Nat → Prop) (w wr : World) (X : Nat → Prop) (d : Nat) (R : Dsk × List BatE × List BatE) (tv : Value) (told bats : List MB) (rows : List (BatE × Bool)) (s : Dsk) (n lg rb M mm : Nat) : Prop where
  go : GoI X0 w wr X d s tv told
  log : LogAt wr lg d n
  xlg : X lg
  xrb : X rb
  good : s.Good mm
  run : RunS s n M
  rest : RestW R (told.map (·.b)) rows s n
  mem : ∀ x ∈ told, x ∈ bats
section
variable {X0 X : Nat → Prop} {w wr w' : World} {d : Nat} {s s' : Dsk} {tv uv : Value} {told under : List MB}
theorem GoI.start (hX0 : ∀ k, X0 k → k < w.heap.size) (hd : Dx X0 w d s) (o : Obj) : GoI X0 w (w.alloc o) (fun k => X0 k ∨ k = w.heap.size) d s (.slice none 0 0) [] :=
  ⟨hd.grow ((Below.refl _ _).alloc (Nat.le_refl _) o) (fun k q => q.imp id (fun e => by omega)), fun k q => by
    rw [World.size_alloc]
    rcases q with q | q
    · have := hX0 k q; omega
    · omega, fun k q => .inl q, (Keeps.refl X0 w).then_alloc hX0 o, World.ownsRow_nil _ _ _ _, fun k e => by cases e⟩
/-- Behind the append of a batch that was told. -/
theorem told_arm (h : GoI X0 w wr X d s tv told) (hX0 : ∀ k, X0 k → k < w.heap.size) {x : MB} {o : Obj} {v2 : Value} {w6 : World} (ho6 : w6.ownsRow w.heap.size 53 2 v2 (told.length + 1) (mbV told ++ mbC x)) (hg6 : (wr.alloc o).grownBy w6 tv.ownBlock) (hat : v2.ownBlock = tv.ownBlock ∨ v2.ownBlock = some (wr.alloc o).heap.size) :
    ∃ A2 c2, v2 = .slice A2 (told.length + 1) c2 ∧ Hid (GoI X0 w w6 (fun k => X k ∨ (Value.slice A2 (told.length + 1) c2).ownBlock = some k) d s (.slice A2 (told.length + 1) c2) (told ++ [x]) ∧ ∀ g t cs, Blk wr g t cs → t ≠ 53 → Blk w6 g t cs) := by
  have h1 := h.app hX0 ho6 hg6 hat
  obtain ⟨A, c, e⟩ := h1.1.form
  rw [List.length_append, List.length_singleton] at e
  subst e
  exact ⟨A, c, rfl, Lib.hid h1⟩
/-- Behind the append of the one under way. -/
theorem under_arm (h : GoI X0 w wr X d s tv told) (hs : w.heap.size ≤ wr.heap.size) {x : MB} {o : Obj} {v2 : Value} {w6 : World} (ho6 : w6.ownsRow w.heap.size 53 2 v2 (0 + 1) ([] ++ mbC x)) (hg6 : (wr.alloc o).grownBy w6 (Value.slice none 0 0).ownBlock) (hat : v2.ownBlock = (Value.slice none 0 0).ownBlock ∨ v2.ownBlock = some (wr.alloc o).heap.size) :
    ∃ A2 c2, v2 = .slice A2 1 c2 ∧ Hid (GoI X0 w w6 (fun k => X k ∨ (Value.slice A2 1 c2).ownBlock = some k) d s tv told ∧ w6.ownsRow w.heap.size 53 2 (.slice A2 1 c2) [x].length (mbV [x]) ∧ ∀ g t cs, Blk wr g t cs → Blk w6 g t cs) := by
  have hb : Below wr.heap.size wr w6 := ((Below.refl _ _).alloc (Nat.le_refl _) o).grown hg6 (by simp) (fun k e => by cases e)
  have hv : ∀ k, v2.ownBlock = some k → wr.heap.size ≤ k ∧ k < w6.heap.size := fun k hk => by
    refine ⟨?_, (own_lt ho6 k hk).2⟩
    rcases hat with e | e
    · rw [e] at hk; cases hk
    · rw [e] at hk; injection hk with hk; simp at hk; omega
  obtain ⟨A, c, e⟩ : ∃ A c, v2 = .slice A 1 c := by
    rcases ho6.2 with ⟨rfl, e⟩ | ⟨g, cap, cur, rfl, _⟩
    · simp at e
    · exact ⟨_, cap, rfl⟩
  subst e
  refine ⟨A, c, rfl, Lib.hid ⟨?_, by simpa [mbV] using ho6, fun g t cs hg => hg.below hb hg.lt⟩⟩
  have h1 := h.grow hb
  exact ⟨h.dx.grow hb (fun k q => q.imp id (fun e => (hv k e).1)), fun k q => by
    rcases q with q | q
    · exact h1.hX k q
    · exact (hv k q).2, fun k q => .inl (h.sub k q), h1.keep, h1.row, fun k q => .inl (h1.inX k q)⟩
end
end Go.Proofs.YtdbpfemkjfogoaaGreatDoor
