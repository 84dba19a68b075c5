/- Contracts: Crash: what holds between its steps. -/
import Derived.Test.YtkhicfoikkllmaaOp12
import Derived.Test.YtkhicfoikkllmaaLst
namespace Go.Proofs.Ytkhicfoikkllmaa
open Go.RowKit
set_option linter.unusedVariables false
set_option linter.unusedSimpArgs false
theorem reads_kept {w w' : World} {S : Nat → Prop} (hk : KeptBut w w' S) {m n : Nat} {A : Option Addr} {xs : List Value} (hr : Reads w w.heap.size m A n xs) (hs : ∀ ad, 0 < n → A = some ad → ¬ S ad.block) : Reads w' w'.heap.size m A n xs := by
  rcases Nat.eq_zero_or_pos n with h | h
  · exact ⟨hr.1, fun h2 => absurd h2 (by omega)⟩
  · exact hk.reads hr fun ad e => hs ad h e
theorem CraAt.kept {w w' : World} {S : Nat → Prop} {c : Cra} {KA PA : Option Addr} (h : CraAt w c KA PA) (hk : KeptBut w w' S) (hS : ∀ ad, (c.keep ≠ [] ∧ KA = some ad) ∨ (c.spoil ≠ [] ∧ PA = some ad) → ¬ S ad.block) : CraAt w' c KA PA :=
  ⟨reads_kept hk h.keep fun ad h0 e => hS ad (.inl ⟨fun e2 => by rw [e2] at h0; simp at h0, e⟩), reads_kept hk h.spoil fun ad h0 e => hS ad (.inr ⟨fun e2 => by rw [e2] at h0; simp at h0, e⟩), h.kl, h.pl, h.kb, h.pb⟩
theorem add_zero_map (A : Option Addr) : A.map (fun x => x.add 0) = A := by
  cases A with
  | none => rfl
  | some a => simp [Addr.add]
theorem ptrV_form (x : Option Nat) : ∃ pa, ptrV x = .pointer pa := by
  cases x with
  | none => exact ⟨none, rfl⟩
  | some b => exact ⟨_, rfl⟩
/-- The row of a disk's changes: its cells. -/
theorem chgV_at (g : Nat → Nat) : ∀ (l : List Chg) (k : Nat) (c : Chg), l[k]? = some c → (chgV g l)[k * 3]? = some (.string (bs c.fr)) ∧ (chgV g l)[k * 3 + 1]? = some (.string (bs c.to)) ∧ (chgV g l)[k * 3 + 2]? = some (ptrV (c.f.map g))
  | [], k, p, h => by simp at h
  | m :: l, 0, p, h => by simp at h; subst h; simp [chgV]
  | m :: l, k + 1, p, h => by
    have ih := chgV_at g l k p (by simpa using h)
    rw [show (k + 1) * 3 = k * 3 + 3 from by omega]
    simpa [chgV] using ih
theorem chg_form {w : World} {F : Nat → Prop} {d : Nat} {L : Lay} {s : Dsk} (h : DskAt w F d L s) : ∃ A cap, L.vC = .slice A s.chg.length cap ∧ s.chg.length ≤ cap ∧ cap ≤ maxLen ∧
    ∀ j c, s.chg[j]? = some c → ∃ g, A = some ⟨g, 0, none⟩ ∧ L.vC.ownBlock = some g ∧ g < w.heap.size ∧ w.cell? ⟨g, j * 3, none⟩ = some (.string (bs c.fr)) ∧ w.cell? ⟨g, j * 3 + 1, none⟩ = some (.string (bs c.to)) ∧ w.cell? ⟨g, j * 3 + 2, none⟩ = some (ptrV (c.f.map L.blk)) := by
  have hc := h.chg
  rcases h.chg.2 with ⟨e, hn⟩ | ⟨g, cap, cur, e, _, hh, h1, h2, _⟩
  · refine ⟨none, 0, by rw [e, hn], by omega, by unfold maxLen; omega, fun j c hj => ?_⟩
    rw [List.eq_nil_of_length_eq_zero hn] at hj
    simp at hj
  · refine ⟨some ⟨g, 0, none⟩, cap, e, h1, h2, fun j c hj => ?_⟩
    have hg : L.vC.ownBlock = some g := by rw [e]; rfl
    have hl := (own_lt hc g hg).2
    have hx := World.ownsRow.cells hc hg
    obtain ⟨a, b, e2⟩ := chgV_at L.blk s.chg j c hj
    have a' := hx _ _ a
    have b' := hx _ _ b
    have e' := hx _ _ e2
    rw [add_plain2, Nat.zero_add] at a' b' e'
    exact ⟨g, rfl, hg, hl, a', b', e'⟩
section
variable {w w' : World} {F : Nat → Prop} {d : Nat} {L : Lay} {s : Dsk}
theorem DskAt.relasts (h : DskAt w F d L s) (hk : KeptBut w w' (fun k => k = L.gL)) {m : NM} (hm : MapAt Try.prog 9 w' L.gL (mvM L.blk m)) (hlv : ∀ p ∈ m, ¬ L.dead p.2) : DskAt w' F d L { s with last := m } := by
  refine ⟨h.box.keptB hk (fun e => map_ne_blk h.last h.box e.symm), h.names.block (hk.block _ h.names.lt (fun e => h.ne e)), hm, own_kept h.chg hk (fun k e => own_ne_map h.chg h.last k e), fun i f hi hd => ?_, h.inF, h.ne, h.inj, ⟨h.live.1, hlv, h.live.2.2⟩, h.rows⟩
  obtain ⟨a, b⟩ := h.file i f hi hd
  exact ⟨a.keptB hk (fun e => map_ne_blk h.last a e.symm), own_kept b hk (fun k e => own_ne_map b h.last k e)⟩
/-- The names are what lasts, in a map of their own. -/
theorem DskAt.recrash (h : DskAt w F d L s) {w3 w4 : World} (hm : MapAt Try.prog 9 w3 w.heap.size (mvM L.blk s.last)) (hb : Below w.heap.size w w3) (hlt : w.heap.size < w3.heap.size)
    (hk : KeptBut w3 w4 (fun k => k = d)) (hbox : Blk w4 d 56 #[.int .i64 s.room, .map (some w.heap.size), .map (some L.gL), .slice none 0 0, .bool s.off, .int .i64 s.fuse]) :
    DskAt w4 (Fx F w w4) d { L with gN := w.heap.size, vC := .slice none 0 0 } { s with names := s.last, chg := [] } ∧ KeptBut w w4 F := by
  obtain ⟨f1, f2, f3, f4, f5⟩ := h.inF
  have h3 := h.below hb
  have hs4 := hk.size
  refine ⟨⟨hbox, ?_, ?_, World.ownsRow_nil _ _ _ _, fun i f hi hd => ?_, ⟨.inl f1, (.inr ⟨Nat.le_refl _, (by show w.heap.size < w4.heap.size; omega)⟩), .inl f3, (fun k e => (by cases e)), fun i hi hd => ⟨.inl (f5 i hi hd).1, fun k e => .inl ((f5 i hi hd).2 k e)⟩⟩, fun e => ?_, h.inj, ⟨h.live.2.1, h.live.2.1, (fun x hx => (by cases hx)), h.live.2.2.2⟩, h.rows⟩, (KeptBut.of_below hb (S := F)).trans hk (fun k _ e => e ▸ f1)⟩
  · exact hm.block (hk.block _ hlt (map_ne_blk hm h3.box))
  · exact h3.last.block (hk.block _ h3.last.lt (map_ne_blk h3.last h3.box))
  · obtain ⟨a, b⟩ := h3.file i f hi hd
    exact ⟨a.keptB hk (blk_ne_blk a h3.box (by decide)), own_kept b hk (own_ne_blk b h3.box (by decide))⟩
  · have := h.last.lt
    have e' : w.heap.size = L.gL := e
    omega
end
def s2 (s : Dsk) (l : NM) (fs : List Fil) : Dsk := { s with off := true, last := l, names := l, chg := [], files := fs }
/-- Between the files that a crash goes through. -/
structure CAt (w wr : World) (F : Nat → Prop) (d C : Nat) (cs : Array Value) (s : Dsk) (l : NM) (fin : List Fil) (c : Cra) (v : Value) (j kk : Nat) : Prop where
  ex : ∃ fs L', DskAt wr (Fx F w wr) d L' (s2 s l fs) ∧ (∀ f ∈ fs, f.k ≤ f.d.length ∧ f.d.length ≤ 1048576) ∧ (∀ p ∈ l, p.1.length ≤ 24 ∧ p.2 < fs.length) ∧ crashGo c (l.drop j) fs kk = fin
  kept : KeptBut w wr F
  row : wr.ownsRow 0 9 1 v l.length (l.map fun p => .string (bs p.1))
  box : Blk wr C 26 cs
  le : j ≤ l.length ∧ kk ≤ j
theorem getM_self : ∀ (m : NM), m.Pairwise (fun p q => p.1 ≠ q.1) → ∀ p ∈ m, getM p.1 m = some p.2
  | [], _, p, h => by cases h
  | q :: m, hp, p, h => by
    obtain ⟨h1, h2⟩ := List.pairwise_cons.1 hp
    unfold getM
    rw [List.find?_cons]
    rcases List.mem_cons.1 h with e | h
    · subst e; simp
    · have := h1 p h
      rw [show (q.1 == p.1) = false from by simpa using this]
      exact getM_self m h2 p h
section
variable {w wr : World} {F : Nat → Prop} {d C : Nat} {cs : Array Value} {s : Dsk} {l : NM} {fin : List Fil} {c : Cra} {v : Value} {j kk : Nat}
theorem Fx.mono {F : Nat → Prop} {w w1 w2 : World} (h : w1.heap.size ≤ w2.heap.size) {k : Nat} (hk : Fx F w w1 k) : Fx F w w2 k := hk.imp id fun e => ⟨e.1, by omega⟩
theorem CAt.below (h : CAt w wr F d C cs s l fin c v j kk) {wx : World} (hb : Below wr.heap.size wr wx) : CAt w wx F d C cs s l fin c v j kk := by
  obtain ⟨fs, L', hD, hf, hl, hg⟩ := h.ex
  exact ⟨⟨fs, L', (hD.below hb).more fun k hk => Fx.mono hb.size hk, hf, hl, hg⟩, h.kept.then_below hb, own_block h.row fun k hk => hb.block k (own_lt h.row k hk).2, h.box.below hb h.box.lt, h.le⟩
/-- A row of bytes that is not empty. -/
theorem row_form {v : Value} {f : List UInt8} (h : OwnB wr 0 v f) (hk : 0 < f.length) : ∃ g cap, v = .slice (some ⟨g, 0, none⟩) f.length cap ∧ f.length ≤ cap ∧ cap ≤ maxLen := by
  rcases h.2 with ⟨e, hn⟩ | ⟨g, cap, cur, e, _, _, h1, h2, _⟩
  · omega
  · exact ⟨g, cap, e, h1, h2⟩
theorem CAt.done (h : CAt w wr F d C cs s l fin c v l.length kk) : Went w wr F d (s2 s l fin) := by
  obtain ⟨fs, L', h1, _, _, h3⟩ := h.ex
  rw [List.drop_length] at h3
  unfold crashGo at h3
  subst h3
  exact ⟨h.kept, L', h1⟩
/-- What a round finds: the name, its file. -/
theorem CAt.round (h : CAt w wr F d C cs s l fin c v j kk) (hj : j < l.length) : ∃ (n : List UInt8) (i : Nat) (f : Fil) (fs : List Fil) (L' : Lay) (g cap : Nat), l[j]? = some (n, i) ∧ DskAt wr (Fx F w wr) d L' (s2 s l fs) ∧ fs[i]? = some f ∧
    (∀ f ∈ fs, f.k ≤ f.d.length ∧ f.d.length ≤ 1048576) ∧ (∀ p ∈ l, p.1.length ≤ 24 ∧ p.2 < fs.length) ∧ crashGo c (l.drop j) fs kk = fin ∧ v = .slice (some ⟨g, 0, none⟩) l.length cap ∧ wr.cell? ⟨g, j, none⟩ = some (.string (bs n)) ∧ n.length ≤ 24 ∧ g < wr.heap.size ∧
    f.k ≤ f.d.length ∧ f.d.length ≤ 1048576 ∧ Blk wr (L'.blk i) 65 #[L'.row i, .int .i64 f.k] ∧ OwnB wr 0 (L'.row i) f.d ∧
    (Instr.lookup 53 (.map (some L'.gN)) (.string (bs n)) false).run Try.prog wr = .ok (.pointer (some ⟨L'.blk i, 0, none⟩)) wr := by
  obtain ⟨fs, L', hD, hf, hl, hg⟩ := h.ex
  have hp : l[j] ∈ l := List.getElem_mem hj
  obtain ⟨h24, hil⟩ := hl _ hp
  have hfi : fs[l[j].2]? = some fs[l[j].2] := List.getElem?_eq_getElem hil
  obtain ⟨hk1, hk2⟩ := hf _ (List.getElem_mem hil)
  obtain ⟨bi, oi⟩ := hD.file l[j].2 fs[l[j].2] hfi (hD.live.1 _ hp)
  have hkeys : l.Pairwise (fun p q => p.1 ≠ q.1) := by
    have := hD.names.keys Try.underlying9
    unfold mvM at this
    rw [List.pairwise_map] at this
    exact this
  have hlk := hD.names.look (t := 53) (e := 60) Try.underlying9 Try.underlying53 (zero_file wr) (s := bs l[j].1) (by rw [bs_size]; unfold maxLen; omega)
  rw [bs_data, mvM_get, show (s2 s l fs).names = l from rfl, getM_self l hkeys _ hp] at hlk
  rcases h.row.2 with ⟨e, hn⟩ | ⟨g, cap, cur, e, _⟩
  · omega
  · have hcell := World.ownsRow.cells h.row (g := g) (by rw [e]; rfl) j (.string (bs l[j].1)) (by rw [List.getElem?_map, List.getElem?_eq_getElem hj]; rfl)
    rw [add_plain2, Nat.zero_add] at hcell
    exact ⟨l[j].1, l[j].2, _, fs, L', g, cap, List.getElem?_eq_getElem hj, hD, hfi, hf, hl, hg, e, hcell, h24, (own_lt h.row g (by rw [e]; rfl)).2, hk1, hk2, bi, oi, hlk⟩
theorem drop_of {l : NM} {j : Nat} {p : List UInt8 × Nat} (h : l[j]? = some p) : l.drop j = p :: l.drop (j + 1) := by
  obtain ⟨hj, e⟩ := List.getElem?_eq_some_iff.1 h
  rw [List.drop_eq_getElem_cons hj, e]
theorem CAt.skip (h : CAt w wr F d C cs s l fin c v j kk) {n : List UInt8} {i : Nat} {f : Fil} {fs : List Fil} {L' : Lay} (hn : l[j]? = some (n, i)) (hD : DskAt wr (Fx F w wr) d L' (s2 s l fs)) (hi : fs[i]? = some f)
    (hf : ∀ f ∈ fs, f.k ≤ f.d.length ∧ f.d.length ≤ 1048576) (hl : ∀ p ∈ l, p.1.length ≤ 24 ∧ p.2 < fs.length) (hg : crashGo c (l.drop j) fs kk = fin) (hk : ¬ f.k < f.d.length) : CAt w wr F d C cs s l fin c v (j + 1) kk := by
  rw [drop_of hn, crashGo, hi] at hg
  simp only [] at hg
  rw [if_neg hk] at hg
  have hj := (List.getElem?_eq_some_iff.1 hn).1
  exact ⟨⟨fs, L', hD, hf, hl, hg⟩, h.kept, h.row, h.box, by omega, by have := h.le; omega⟩
theorem CAt.crashed (h : CAt w wr F d C cs s l fin c v j kk) {n : List UInt8} {i : Nat} {f : Fil} {fs : List Fil} {L' : Lay} (hn : l[j]? = some (n, i)) (hD : DskAt wr (Fx F w wr) d L' (s2 s l fs)) (hi : fs[i]? = some f)
    (hf : ∀ f ∈ fs, f.k ≤ f.d.length ∧ f.d.length ≤ 1048576) (hl : ∀ p ∈ l, p.1.length ≤ 24 ∧ p.2 < fs.length) (hg : crashGo c (l.drop j) fs kk = fin) (hk : f.k < f.d.length) {g cap : Nat} (hrow : L'.row i = .slice (some ⟨g, 0, none⟩) f.d.length cap) {e : Ending} {w1 : World}
    (hc : FCr wr (L'.blk i) g cap f c kk e w1) : CAt w (w1.setCell ⟨L'.blk i, 1, none⟩ (.int .i64 ((f.k + keepN c kk (f.d.length - f.k) : Nat) : Int))) F d C cs s l fin c v (j + 1) (kk + 1) := by
  rw [drop_of hn, crashGo, hi] at hg
  simp only [] at hg
  rw [if_pos hk] at hg
  have hj := (List.getElem?_eq_some_iff.1 hn).1
  obtain ⟨hil, hie⟩ := List.getElem?_eq_some_iff.1 hi
  obtain ⟨_, hb, ho, hkb⟩ := hc
  obtain ⟨hf1, hf2⟩ := hf f (List.mem_of_getElem? hi)
  have hdl := hD.live.1 _ (List.mem_of_getElem? hn)
  obtain ⟨bi, oi⟩ := hD.file i f hi hdl
  have hown : (L'.row i).ownBlock = some g := by rw [hrow]; rfl
  have hfd : (crashF c kk f).d = f.d.take f.k ++ tailC c kk (f.d.drop f.k) := rfl
  have hfl : (f.d.take f.k ++ tailC c kk (f.d.drop f.k)).length = f.k + keepN c kk (f.d.length - f.k) := by
    rw [List.length_append, tailC_len, List.length_take, List.length_drop]
    omega
  have hk2 : KeptBut wr (w1.setCell ⟨L'.blk i, 1, none⟩ (.int .i64 ((f.k + keepN c kk (f.d.length - f.k) : Nat) : Int))) (fun k => k = L'.blk i ∨ (L'.row i).ownBlock = some k) := by
    refine (hkb.mono fun k _ e => ?_).then_set (.inl rfl)
    rcases e with e | e
    · exact .inl e
    · exact .inr (by rw [hown, e])
  have hset := hD.setFile (f' := crashF c kk f) (v := .slice (some ⟨g, 0, none⟩) (f.k + keepN c kk (f.d.length - f.k)) cap) hi hk2
    (by
      have := hb.set_ 1 (.int .i64 ((f.k + keepN c kk (f.d.length - f.k) : Nat) : Int))
      have e2 : (crashF c kk f).k = f.k + keepN c kk (f.d.length - f.k) := hfl
      rw [e2]
      simpa using this)
    (by rw [hfd]; exact own_block ho fun k hk' => Below.heap_setCell _ _ _ _ (own_ne_blk ho hb (by decide) k hk'))
    (fun k e => .inl (by rw [hown]; exact e)) hdl
  have hs1 := hk2.size
  have hsw := h.kept.size
  obtain ⟨hset1, hset2⟩ := hset
  refine ⟨⟨fs.set i (crashF c kk f), _, hset1.more (fun k hk => ?_), fun x hx => ?_, fun p hp => by rw [List.length_set]; exact hl p hp, hg⟩, h.kept.trans hset2 (fun k hk0 e => ?_), ?_, ?_, by omega, by have := h.le; omega⟩
  · rcases hk with (hk | hk) | hk
    · exact .inl hk
    · exact .inr ⟨hk.1, by omega⟩
    · exact .inr ⟨by omega, hk.2⟩
  · rcases List.mem_or_eq_of_mem_set hx with h1 | rfl
    · exact hf x h1
    · exact crashF_ok ⟨hf1, hf2⟩
  · rcases e with e | e
    · exact e
    · omega
  · exact own_kept h.row hk2 fun k e1 e2 => e2.elim (fun e3 => own_ne_blk h.row bi (by decide) k e1 e3) (own_ne_own h.row oi (by decide) k e1)
  · exact h.box.keptB hk2 (fun e => e.elim (fun e => blk_ne_blk bi h.box (by decide) e.symm) (fun e => own_ne_blk oi h.box (by decide) _ e rfl))
end
end Go.Proofs.Ytkhicfoikkllmaa
