/- Contracts: Twin: between its steps. -/
import Derived.Test.YtkhicfoikkllmaaTwC
namespace Go.Proofs.Ytkhicfoikkllmaa
open Go.RowKit
set_option linter.unusedVariables false
set_option linter.unusedSimpArgs false
structure ExtK (w0 : World) (g : Nat) where
  w : World
  kept : KeptBut w0 w (fun k => k = g)
instance (w : World) (g : Nat) : Nonempty (ExtK w g) := ⟨⟨w, KeptBut.refl _ _⟩⟩
theorem ExtK.cell {w : World} {g : Nat} (x : ExtK w g) (b o : Nat) (h : b < w.heap.size) (hg : ¬ b = g) : x.w.cell? ⟨b, o, none⟩ = w.cell? ⟨b, o, none⟩ := x.kept.cell ⟨b, o, none⟩ h hg
theorem ExtK.frozen {w : World} {g : Nat} (x : ExtK w g) (b o : Nat) (h : b < w.heap.size) (hg : ¬ b = g) : x.w.frozen? ⟨b, o, none⟩ = w.frozen? ⟨b, o, none⟩ := by
  have hb := x.kept.block b h hg
  unfold World.frozen?
  simp only [hb]
structure ExtP (I : World → Prop) where
  w : World
  inv : I w
theorem before_asymm {a b : List UInt8} (h : bytesBefore a b = true) : bytesBefore b a = false := by
  rcases Bool.eq_false_or_eq_true (bytesBefore b a) with h2 | h2
  · exact absurd (List.lt_trans (before_lt _ _ h) (before_lt _ _ h2)) (List.lt_irrefl _)
  · exact h2
theorem before_ne {a b : List UInt8} (h : bytesBefore a b = true) : a ≠ b := by
  rintro rfl
  have := before_asymm h
  rw [h] at this
  cases this
theorem put_filter {k : List UInt8} {v : Nat} {done : List UInt8 → Bool} (hk : done k = false) : ∀ m : NM, m.Pairwise (fun p q => bytesBefore p.1 q.1 = true) → (k, v) ∈ m → putM k v (m.filter fun q => done q.1) = m.filter fun q => done q.1 || q.1 == k
  | [], _, h => by cases h
  | q :: r, hp, h => by
    obtain ⟨h1, h2⟩ := List.pairwise_cons.1 hp
    by_cases e : q.1 = k
    · have hq : q = (k, v) := by
        rcases List.mem_cons.1 h with h3 | h3
        · exact h3.symm
        · exact absurd e (before_ne (h1 _ h3))
      subst hq
      rw [List.filter_cons, List.filter_cons]
      simp only [hk, Bool.false_eq_true, if_false, Bool.false_or, beq_self_eq_true, if_true]
      have hno : ∀ x ∈ r, x.1 ≠ k := fun x hx => (before_ne (h1 x hx)).symm
      have e1 : (r.filter fun q => done q.1 || q.1 == k) = r.filter fun q => done q.1 := List.filter_congr fun x hx => by simp [hno x hx]
      have e2 : delM k (r.filter fun q => done q.1) = r.filter fun q => done q.1 := by
        unfold delM
        rw [List.filter_eq_self]
        intro x hx
        simpa using hno x (List.mem_filter.1 hx).1
      unfold putM
      rw [e1, e2]
      cases hr : r.filter fun q => done q.1 with
      | nil => rfl
      | cons y ys =>
        have hy : y ∈ r := (List.mem_filter.1 (hr ▸ List.mem_cons_self : y ∈ r.filter fun q => done q.1)).1
        unfold insM
        rw [if_pos (h1 y hy)]
    · have h3 : (k, v) ∈ r := by
        rcases List.mem_cons.1 h with h3 | h3
        · exact absurd (by rw [← h3]) e
        · exact h3
      have ih := put_filter hk r h2 h3
      rw [List.filter_cons, List.filter_cons]
      have hqk : (q.1 == k) = false := by simpa using e
      cases hd : done q.1
      · simp only [hqk, Bool.false_or, Bool.false_eq_true, if_false]
        exact ih
      · simp only [Bool.true_or, if_true]
        rw [← ih]
        unfold putM delM
        rw [List.filter_cons]
        simp only [hqk, Bool.not_false, if_true]
        rw [show insM (k, v) (q :: List.filter (fun p => !p.1 == k) (List.filter (fun q => done q.1) r)) = q :: insM (k, v) (List.filter (fun p => !p.1 == k) (List.filter (fun q => done q.1) r)) from by
          conv => lhs; unfold insM
          rw [if_neg (by rw [before_asymm (h1 _ h3)]; decide)]]
theorem ranges_block {P : Program} {k : TypeId} {w w' : World} {b r n cnt : Nat} {D : DataW Unit} {left : Lit → Bool} (h : w.ranges P k ptrR b r n D left cnt) (hb : w'.heap[b]? = w.heap[b]?) (hr : w'.heap[r]? = w.heap[r]?) : w'.ranges P k ptrR b r n D left cnt := by
  obtain ⟨es, clock, since, seen, c0, h1, h2, h3, h4, h5, h6⟩ := h
  exact ⟨es, clock, since, seen, c0, hb.trans h1, h2, h3, h4, hr.trans h5, h6⟩
theorem ranges_lt {P : Program} {k : TypeId} {w : World} {b r n cnt : Nat} {D : DataW Unit} {left : Lit → Bool} (h : w.ranges P k ptrR b r n D left cnt) : r < w.heap.size := by
  obtain ⟨es, clock, since, seen, c0, h1, h2, h3, h4, h5, h6⟩ := h
  exact (Array.getElem?_eq_some_iff.1 h5).1
section
variable {w w' : World} {F : Nat → Prop} {d : Nat} {L : Lay} {s : Dsk}
theorem TwAt.kept {S : Nat → Prop} {n M gm : Nat} {Lt : Lay} (h : TwAt w n L Lt M gm) (hk : KeptBut w w' S) (hM : ¬ S M) (hg : ¬ S gm) : TwAt w' n L Lt M gm := by
  obtain ⟨mk, h1, h2⟩ := h.pm
  exact ⟨h.box.keptB hk hM, mk, h1.block (hk.block gm h1.lt hg), h2⟩
theorem TwAt.glt {n M gm : Nat} {Lt : Lay} (h : TwAt w n L Lt M gm) : gm < w.heap.size := by
  obtain ⟨mk, h1, h2⟩ := h.pm
  exact h1.lt
/-- A new disk, with the files that are not there yet. -/
theorem DskAt.ghost {r : Int} (h : DskAt w F d L (Dsk.new r)) (fs : List Fil) : DskAt w F d { L with dead := fun i => i < fs.length } { Dsk.new r with files := fs } := by
  obtain ⟨f1, f2, f3, f4, f5⟩ := h.inF
  exact ⟨h.box, h.names, h.last, h.chg, fun i f hi hd => absurd (List.getElem?_eq_some_iff.1 hi).1 hd, ⟨f1, f2, f3, f4, fun i hi hd => absurd hi hd⟩, h.ne, fun i j hi hj di => absurd hi di,
    ⟨fun p hp => by simp [Dsk.new] at hp, fun p hp => by simp [Dsk.new] at hp, fun p hp => by simp [Dsk.new] at hp, fun i hi => hi⟩, fun i j k hi hj di => absurd hi di⟩
/-- The names are a copy of what lasts. -/
theorem DskAt.reclone (h : DskAt w F d L s) {w3 w4 : World} (hm : MapAt Try.prog 9 w3 w.heap.size (mvM L.blk s.last)) (hb : Below w.heap.size w w3) (hlt : w.heap.size < w3.heap.size)
    (hk : KeptBut w3 w4 (fun k => k = d)) (hbox : Blk w4 d 56 #[.int .i64 s.room, .map (some w.heap.size), .map (some L.gL), L.vC, .bool s.off, .int .i64 s.fuse]) :
    DskAt w4 (Fx F w w4) d { L with gN := w.heap.size } { s with names := s.last } := by
  obtain ⟨f1, f2, f3, f4, f5⟩ := h.inF
  have h3 := h.below hb
  have hs4 := hk.size
  refine ⟨hbox, ?_, ?_, own_kept h3.chg hk (own_ne_blk h3.chg h3.box (by decide)), fun i f hi hd => ?_, ⟨.inl f1, (.inr ⟨Nat.le_refl _, (by show w.heap.size < w4.heap.size; omega)⟩), .inl f3, (fun k e => .inl (f4 k e)), fun i hi hd => ⟨.inl (f5 i hi hd).1, fun k e => .inl ((f5 i hi hd).2 k e)⟩⟩, fun e => ?_, h.inj, ⟨h.live.2.1, h.live.2⟩, h.rows⟩
  · exact hm.block (hk.block _ hlt (map_ne_blk hm h3.box))
  · exact h3.last.block (hk.block _ h3.last.lt (map_ne_blk h3.last h3.box))
  · obtain ⟨a, b⟩ := h3.file i f hi hd
    exact ⟨a.keptB hk (blk_ne_blk a h3.box (by decide)), own_kept b hk (own_ne_blk b h3.box (by decide))⟩
  · have := h.last.lt
    have e' : w.heap.size = L.gL := e
    omega
end
/-- A twin under way: what is of it, in memory that is its own. -/
structure Way (w wr : World) (Fd : Nat → Prop) (d : Nat) (L : Lay) (s : Dsk) (t M gm : Nat) (X : Nat → Prop) (st : Dsk) : Prop where
  src : DskAt wr Fd d L s
  ex : ∃ Ft Lt, DskAt wr Ft t Lt st ∧ TwAt wr s.files.length L Lt M gm ∧ ∀ k, Ft k → w.heap.size ≤ k ∧ k < wr.heap.size ∧ k ≠ gm ∧ k ≠ M ∧ ¬ X k
  below : Below w.heap.size w wr
section
variable {w wr : World} {Fd : Nat → Prop} {d t M gm : Nat} {L : Lay} {s st : Dsk} {X : Nat → Prop}
theorem Way.kept (h : Way w wr Fd d L s t M gm X st) {wx : World} {S : Nat → Prop} (hk : KeptBut wr wx S) (hS : ∀ k, k < wr.heap.size → S k → X k ∧ w.heap.size ≤ k ∧ k ≠ gm ∧ k ≠ M) (hF : ∀ k, Fd k → k < w.heap.size) : Way w wx Fd d L s t M gm X st := by
  obtain ⟨Ft, Lt, hT, hA, hs⟩ := h.ex
  have hz := hk.size
  have hz0 := h.below.size
  have hmn := hk.mono hS
  refine ⟨h.src.kept hmn (fun k hk e => by have := hF k hk; omega), ⟨Ft, Lt, hT.kept hmn (fun k hk e => (hs k hk).2.2.2.2 e.1), hA.kept hmn (fun e => e.2.2.2 rfl) (fun e => e.2.2.1 rfl), fun k hk => by obtain ⟨a, b, c⟩ := hs k hk; exact ⟨a, by omega, c⟩⟩, h.below.trans (hmn.below (fun k e => e.2.1) hz0)⟩
theorem Way.more {X' : Nat → Prop} (h : Way w wr Fd d L s t M gm X st) (hX : ∀ k, k < wr.heap.size → X' k → X k) : Way w wr Fd d L s t M gm X' st := by
  obtain ⟨Ft, Lt, hT, hA, hs⟩ := h.ex
  exact ⟨h.src, ⟨Ft, Lt, hT, hA, fun k hk => by obtain ⟨a, b, c, e, f⟩ := hs k hk; exact ⟨a, b, c, e, fun x => f (hX k b x)⟩⟩, h.below⟩
end
section
variable {w : World} {Fd Ft : Nat → Prop} {d t M gm : Nat} {L Lt : Lay} {s st : Dsk}
theorem twc_any (hD : DskAt w Fd d L s) (hT : DskAt w Ft t Lt st) (hfs : st.files = s.files) (hA : TwAt w s.files.length L Lt M gm) (o : Option Nat) (ho : ∀ i, o = some i → i < s.files.length ∧ ¬ L.dead i) (hfl : ∀ f ∈ s.files, f.d.length ≤ 1048576) (hgd : ∀ k, Fd k → k ≠ gm) (hgt : ∀ k, Ft k → k ≠ gm) :
    Calls Try.prog 38 #[ptrV (o.map L.blk), .pointer (some ⟨M, 0, none⟩)] w fun e w' => ∃ Lt', e = .returned (ptrV (o.map Lt'.blk)) ∧ DskAt w' Fd d L s ∧ DskAt w' (Fx Ft w w') t Lt' st ∧ TwAt w' s.files.length L Lt' M gm ∧ KeptBut w w' (fun k => k = gm) ∧ ∀ i, o = some i → ¬ Lt'.dead i := by
  cases o with
  | none =>
    refine (tw_nil hA).mono ?_
    rintro e w' ⟨rfl, rfl⟩
    exact ⟨Lt, rfl, hD, hT.more (fun k hk => .inl hk), hA, KeptBut.refl _ _, fun i h => by cases h⟩
  | some i =>
    obtain ⟨h1, h2⟩ := ho i rfl
    refine (tw_some hD hT hfs hA (List.getElem?_eq_getElem h1) (hfl _ (List.getElem_mem h1)) h2 hgd hgt).mono ?_
    rintro e w' ⟨Lt', rfl, hO⟩
    exact ⟨Lt', rfl, hO.src, hO.dst, hO.tw, hO.kept, fun j h => by injection h with h; subst h; exact hO.live⟩
end
/-- The twin behind its first i changes. -/
def twS (s : Dsk) (i : Nat) : Dsk := { room := s.room, fuse := s.fuse, off := s.off, files := s.files, names := (s.chg.take i).foldl doesC s.last, last := s.last, chg := s.chg.take i }
theorem twS_all {s : Dsk} (h : s.names = s.chg.foldl doesC s.last) : twS s s.chg.length = s := by
  unfold twS
  rw [List.take_length, ← h]
end Go.Proofs.Ytkhicfoikkllmaa
