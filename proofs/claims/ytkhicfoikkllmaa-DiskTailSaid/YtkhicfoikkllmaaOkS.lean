/- What holds of every disk that its operations leave: kept by each of them. No program in sight. -/
import Derived.Test.YtkhicfoikkllmaaDskS
namespace Go.Proofs.Ytkhicfoikkllmaa
set_option linter.unusedVariables false
set_option linter.unusedSimpArgs false
/-- What holds of every disk that its operations leave. -/
structure Dsk.Ok (s : Dsk) : Prop where
  room : s.room ≤ 1048576
  fuse : s.fuse ≤ 9223372036854775807
  names : ∀ p ∈ s.names, p.1.length ≤ 24 ∧ p.2 < s.files.length
  last : ∀ p ∈ s.last, p.1.length ≤ 24 ∧ p.2 < s.files.length
  chg : ∀ c ∈ s.chg, c.fr.length ≤ 24 ∧ c.to.length ≤ 24 ∧ (∀ i, c.f = some i → i < s.files.length) ∧ (c.to ≠ [] → c.f ≠ none)
  file : ∀ f ∈ s.files, f.k ≤ f.d.length ∧ f.d.length ≤ 1048576
theorem Dsk.burn_pos {s : Dsk} (h : 0 < s.fuse) : s.burn = { s with fuse := s.fuse - 1, off := s.fuse - 1 == 0 } := by unfold Dsk.burn; rw [if_pos h]
theorem Dsk.burn_zero {s : Dsk} (h : ¬ 0 < s.fuse) : s.burn = s := by unfold Dsk.burn; rw [if_neg h]
theorem Dsk.burn_same {s : Dsk} : s.burn.files = s.files ∧ s.burn.names = s.names ∧ s.burn.last = s.last ∧ s.burn.chg = s.chg ∧ s.burn.room = s.room ∧ s.burn.fuse ≤ s.fuse := by
  by_cases h : 0 < s.fuse
  · rw [Dsk.burn_pos h]; exact ⟨rfl, rfl, rfl, rfl, rfl, Nat.sub_le _ _⟩
  · rw [Dsk.burn_zero h]; exact ⟨rfl, rfl, rfl, rfl, rfl, Nat.le_refl _⟩
section
variable {s : Dsk}
theorem Dsk.Ok.burn (ok : s.Ok) : s.burn.Ok := by
  obtain ⟨h1, h2, h3, h4, h5, h6⟩ := @Dsk.burn_same s
  exact ⟨by rw [h5]; exact ok.room, by have := ok.fuse; omega, by rw [h1, h2]; exact ok.names, by rw [h1, h3]; exact ok.last, by rw [h1, h4]; exact ok.chg, by rw [h1]; exact ok.file⟩
theorem Dsk.Ok.newFile (ok : s.Ok) : ({ s with files := s.files ++ [⟨[], 0⟩] } : Dsk).Ok := by
  refine ⟨ok.room, ok.fuse, fun p hp => ?_, fun p hp => ?_, fun c hc => ?_, fun f hf => ?_⟩
  · have := ok.names p hp; simp; omega
  · have := ok.last p hp; simp; omega
  · obtain ⟨a, b, e, g⟩ := ok.chg c hc
    exact ⟨a, b, fun i hi => by have := e i hi; simp; omega, g⟩
  · simp at hf
    rcases hf with hf | rfl
    · exact ok.file f hf
    · exact ⟨Nat.le_refl _, by simp⟩
theorem doesC_mem {m : NM} {c : Chg} {p : List UInt8 × Nat} (h : p ∈ doesC m c) : p ∈ m ∨ (c.to ≠ [] ∧ p = (c.to, c.f.getD 0)) := by
  unfold doesC at h
  simp only [] at h
  by_cases h2 : c.to = []
  · rw [if_pos h2] at h
    by_cases h1 : c.fr = []
    · rw [if_pos h1] at h; exact .inl h
    · rw [if_neg h1] at h; exact .inl ((delM_mem _ _ _).1 h).1
  · rw [if_neg h2] at h
    rcases (putM_mem _ _ _ _).1 h with h | ⟨h, _⟩
    · exact .inr ⟨h2, h⟩
    · by_cases h1 : c.fr = []
      · rw [if_pos h1] at h; exact .inl h
      · rw [if_neg h1] at h; exact .inl ((delM_mem _ _ _).1 h).1
theorem doesC_ok {m : NM} {c : Chg} {n : Nat} (hm : ∀ p ∈ m, p.1.length ≤ 24 ∧ p.2 < n) (h2 : c.to.length ≤ 24) (h3 : ∀ i, c.f = some i → i < n) (h4 : c.to ≠ [] → c.f ≠ none) : ∀ p ∈ doesC m c, p.1.length ≤ 24 ∧ p.2 < n := by
  intro p hp
  rcases doesC_mem hp with h | ⟨h, rfl⟩
  · exact hm p h
  · obtain ⟨i, hi⟩ := Option.ne_none_iff_exists'.1 (h4 h)
    refine ⟨h2, ?_⟩
    simp only [hi, Option.getD_some]
    exact h3 i hi
theorem Dsk.Ok.changed (ok : s.Ok) {c : Chg} (h1 : c.fr.length ≤ 24) (h2 : c.to.length ≤ 24) (h3 : ∀ i, c.f = some i → i < s.files.length) (h4 : c.to ≠ [] → c.f ≠ none) : (s.changed c).1.Ok := by
  obtain ⟨e1, e2, e3, e4, e5, e6⟩ := @Dsk.burn_same s
  have hb := ok.burn
  unfold Dsk.changed
  split
  · exact hb
  · refine ⟨hb.room, hb.fuse, doesC_ok hb.names h2 (by rw [e1]; exact h3) h4, hb.last, fun x hx => ?_, hb.file⟩
    simp only [List.mem_append, List.mem_singleton] at hx
    rcases hx with hx | rfl
    · exact hb.chg x hx
    · exact ⟨h1, h2, by rw [e1]; exact h3, h4⟩
theorem rightB_len {n : List UInt8} (h : rightB n = true) : n.length ≤ 24 := by
  unfold rightB at h
  simp at h
  exact h.1.2
theorem Dsk.Ok.create (ok : s.Ok) (n : Nm) : (s.create n).1.Ok := by
  unfold Dsk.create
  split
  · exact ok
  · split
    · exact ok
    · split
      · rename_i h
        exact ok.newFile.changed (by simp) (rightB_len h) (fun i hi => by simp at hi; subst hi; simp) (by simp)
      · exact ok
theorem Dsk.Ok.delete (ok : s.Ok) (n : Nm) : (s.delete n).1.Ok := by
  unfold Dsk.delete
  split
  · exact ok
  · split
    · exact ok
    · rename_i h
      exact ok.changed (ok.names _ (getM_mem h)).1 (by simp) (by simp) (by simp)
theorem Dsk.Ok.rename (ok : s.Ok) (a b : Nm) : (s.rename a b).1.Ok := by
  unfold Dsk.rename
  split
  · exact ok
  · split
    · rename_i hb
      split
      · exact ok
      · rename_i i h
        split
        · exact ok.burn
        · exact ok.changed (ok.names _ (getM_mem h)).1 (rightB_len hb) (fun j hj => by injection hj with hj; subst hj; exact (ok.names _ (getM_mem h)).2) (by simp)
    · exact ok
theorem Dsk.Ok.setF (ok : s.Ok) (i : Nat) (g : Fil → Fil) (hg : ∀ f, s.files[i]? = some f → (g f).k ≤ (g f).d.length ∧ (g f).d.length ≤ 1048576) : (s.setF i g).Ok := by
  unfold Dsk.setF
  cases hi : s.files[i]? with
  | none => exact ok
  | some f =>
    refine ⟨ok.room, ok.fuse, by simpa using ok.names, by simpa using ok.last, by simpa using ok.chg, fun x hx => ?_⟩
    rcases List.mem_or_eq_of_mem_set hx with h | rfl
    · exact ok.file x h
    · exact hg f hi
theorem Dsk.Ok.sync (ok : s.Ok) (n : Nm) : (s.sync n).1.Ok := by
  unfold Dsk.sync
  split
  · exact ok
  · split
    · exact ok
    · split
      · exact ok.burn
      · exact ok.burn.setF _ _ fun f hf => ⟨Nat.le_refl _, (ok.burn.file f (List.mem_of_getElem? hf)).2⟩
theorem Dsk.dlen_used {n : List UInt8} {i : Nat} (hg : getM n s.names = some i) : s.dlen i ≤ s.used := by
  unfold Dsk.used
  have h := getM_mem hg
  have : ∀ (m : NM) (p : List UInt8 × Nat), p ∈ m → s.dlen p.2 ≤ (m.map fun q => s.dlen q.2).sum := by
    intro m
    induction m with
    | nil => intro p hp; cases hp
    | cons q m ih =>
      intro p hp
      rw [List.map_cons, List.sum_cons]
      rcases List.mem_cons.1 hp with rfl | hp
      · omega
      · have := ih p hp; omega
  exact this _ _ h
theorem Dsk.Ok.append (ok : s.Ok) (n : Nm) (x : List UInt8) : (s.append n x).1.Ok := by
  unfold Dsk.append
  split
  · exact ok
  · split
    · exact ok
    · rename_i i h
      split
      · exact ok
      · rename_i hr
        split
        · exact ok.burn
        · refine ok.burn.setF _ _ fun f hf => ?_
          have h1 := ok.burn.file f (List.mem_of_getElem? hf)
          have h2 := Dsk.dlen_used h
          rw [Dsk.burn_same.1] at hf
          have h3 : s.dlen i = f.d.length := by unfold Dsk.dlen; rw [hf]
          have := ok.room
          simp only [List.length_append]
          omega
theorem Dsk.Ok.dirsync (ok : s.Ok) : s.dirsync.1.Ok := by
  unfold Dsk.dirsync
  split
  · exact ok
  · split
    · exact ok.burn
    · exact ⟨ok.burn.room, ok.burn.fuse, ok.burn.names, ok.burn.names, (fun c hc => (by cases hc)), ok.burn.file⟩
theorem Dsk.Ok.start (ok : s.Ok) : s.start.Ok := ⟨ok.room, ok.fuse, ok.names, ok.last, ok.chg, ok.file⟩
theorem Dsk.Ok.setFuse (ok : s.Ok) (n : Int) (hn : n ≤ 9223372036854775807) : (s.setFuse n).Ok := ⟨ok.room, by show (max n 0).toNat ≤ _; omega, ok.names, ok.last, ok.chg, ok.file⟩
theorem Dsk.Ok.new (r : Int) : (Dsk.new r).Ok := ⟨by unfold Dsk.new; simp only []; omega, by simp [Dsk.new], by simp [Dsk.new], by simp [Dsk.new], by simp [Dsk.new], by simp [Dsk.new]⟩
theorem xorAt_len (l : List UInt8) (i : Nat) (m : UInt8) : (xorAt l i m).length = l.length := by
  unfold xorAt
  split <;> simp
theorem xorAt_some {l : List UInt8} {i : Nat} (m : UInt8) (h : i < l.length) : xorAt l i m = l.set i (l[i] ^^^ m) := by
  unfold xorAt
  rw [List.getElem?_eq_getElem h]
theorem keepN_le (c : Cra) (k t : Nat) : keepN c k t ≤ t := by
  unfold keepN
  split
  · omega
  · omega
theorem spoil_len (a m : Nat) : ∀ (n : Nat) (l : List UInt8), ((List.range n).foldl (fun l i => xorAt l (a + i) (UInt8.ofNat (m / 2 ^ (8 * i)))) l).length = l.length
  | 0, l => rfl
  | n + 1, l => by
    rw [List.range_succ, List.foldl_append]
    simp only [List.foldl_cons, List.foldl_nil]
    rw [xorAt_len, spoil_len a m n l]
theorem tailC_len (c : Cra) (k : Nat) (t : List UInt8) : (tailC c k t).length = keepN c k t.length := by
  have h := keepN_le c k t.length
  unfold tailC
  simp only []
  split
  · rw [List.length_take]; omega
  · split
    · unfold spoilT
      rw [spoil_len, List.length_take]
      omega
    · rw [List.length_take]; omega
theorem crashF_ok {c : Cra} {k : Nat} {f : Fil} (h : f.k ≤ f.d.length ∧ f.d.length ≤ 1048576) : (crashF c k f).k ≤ (crashF c k f).d.length ∧ (crashF c k f).d.length ≤ 1048576 := by
  unfold crashF
  have := keepN_le c k (f.d.drop f.k).length
  refine ⟨Nat.le_refl _, ?_⟩
  simp only [List.length_append, tailC_len, List.length_take, List.length_drop] at this ⊢
  omega
theorem crashGo_ok (c : Cra) : ∀ (m : NM) (fs : List Fil) (k : Nat), (∀ f ∈ fs, f.k ≤ f.d.length ∧ f.d.length ≤ 1048576) → (crashGo c m fs k).length = fs.length ∧ ∀ f ∈ crashGo c m fs k, f.k ≤ f.d.length ∧ f.d.length ≤ 1048576
  | [], fs, k, h => ⟨rfl, h⟩
  | p :: r, fs, k, h => by
    unfold crashGo
    cases hp : fs[p.2]? with
    | none => exact crashGo_ok c r fs k h
    | some f =>
      simp only []
      split
      · have := crashGo_ok c r (fs.set p.2 (crashF c k f)) (k + 1) (fun x hx => by
          rcases List.mem_or_eq_of_mem_set hx with h1 | rfl
          · exact h x h1
          · exact crashF_ok (h f (List.mem_of_getElem? hp)))
        rw [List.length_set] at this
        exact this
      · exact crashGo_ok c r fs k h
theorem doesAll_ok {n : Nat} : ∀ (cs : List Chg) (m : NM), (∀ p ∈ m, p.1.length ≤ 24 ∧ p.2 < n) → (∀ c ∈ cs, c.fr.length ≤ 24 ∧ c.to.length ≤ 24 ∧ (∀ i, c.f = some i → i < n) ∧ (c.to ≠ [] → c.f ≠ none)) → ∀ p ∈ cs.foldl doesC m, p.1.length ≤ 24 ∧ p.2 < n
  | [], m, hm, _ => hm
  | c :: cs, m, hm, hc => by
    obtain ⟨a, b, e, g⟩ := hc c (by simp)
    exact doesAll_ok cs (doesC m c) (doesC_ok hm b e g) (fun x hx => hc x (List.mem_cons_of_mem _ hx))
theorem Dsk.Ok.crash (ok : s.Ok) (c : Cra) : (s.crash c).Ok := by
  have hd := doesAll_ok (s.chg.take (min (max c.names 0) s.chg.length).toNat) s.last ok.last (fun x hx => ok.chg x (List.mem_of_mem_take hx))
  have hf := crashGo_ok c ((s.chg.take (min (max c.names 0) s.chg.length).toNat).foldl doesC s.last) s.files 0 ok.file
  unfold Dsk.crash
  exact ⟨ok.room, ok.fuse, by simp only []; rw [hf.1]; exact hd, by simp only []; rw [hf.1]; exact hd, (fun x hx => (by cases hx)), hf.2⟩
/-- How many entries and changes there are: each operation makes at most one more. -/
def Dsk.load (s : Dsk) : Nat := s.last.length + s.chg.length
theorem doesC_len (m : NM) (c : Chg) : (doesC m c).length ≤ m.length + 1 := by
  have h1 := delM_len c.fr m
  unfold doesC
  simp only []
  split
  · split <;> omega
  · split
    · exact putM_len _ _ _
    · have := putM_len c.to (c.f.getD 0) (delM c.fr m); omega
theorem doesAll_len : ∀ (cs : List Chg) (m : NM), (cs.foldl doesC m).length ≤ m.length + cs.length
  | [], m => by simp
  | c :: cs, m => by
    have := doesAll_len cs (doesC m c)
    have := doesC_len m c
    simp only [List.foldl_cons, List.length_cons]
    omega
end
end Go.Proofs.Ytkhicfoikkllmaa
