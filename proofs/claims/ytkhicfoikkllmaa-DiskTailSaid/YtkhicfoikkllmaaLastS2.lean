/- A file that was synced, whose name lasts: what other names' acts leave of it. No program in sight. -/
import Derived.Test.YtkhicfoikkllmaaLastS
namespace Go.Proofs.Ytkhicfoikkllmaa
set_option linter.unusedVariables false
set_option linter.unusedSimpArgs false
theorem getM_cons (n : List UInt8) (p : List UInt8 × Nat) (m : NM) : getM n (p :: m) = if p.1 = n then some p.2 else getM n m := by
  unfold getM
  rw [List.find?_cons]
  by_cases h : p.1 = n
  · rw [show (p.1 == n) = true from by simpa using h, if_pos h]; rfl
  · rw [show (p.1 == n) = false from by simpa using h, if_neg h]
theorem getM_del {n k : List UInt8} (h : k ≠ n) : ∀ m : NM, getM n (delM k m) = getM n m
  | [] => rfl
  | p :: m => by
    unfold delM
    rw [List.filter_cons]
    by_cases hp : p.1 = k
    · have e : (!(p.1 == k)) = false := by simpa using hp
      rw [if_neg (by rw [e]; decide), getM_cons, if_neg (fun e2 => h (hp.symm.trans e2))]
      exact getM_del h m
    · have e : (!(p.1 == k)) = true := by simpa using hp
      rw [if_pos e, getM_cons, getM_cons]
      have := getM_del h m
      unfold delM at this
      rw [this]
theorem getM_ins {n : List UInt8} {x : List UInt8 × Nat} (h : x.1 ≠ n) : ∀ m : NM, getM n (insM x m) = getM n m
  | [] => by unfold insM; rw [getM_cons, if_neg h]
  | p :: m => by
    unfold insM
    split
    · rw [getM_cons, if_neg h]
    · rw [getM_cons, getM_cons, getM_ins h m]
theorem getM_put {n k : List UInt8} {v : Nat} (h : k ≠ n) (m : NM) : getM n (putM k v m) = getM n m := by
  unfold putM
  rw [getM_ins h, getM_del h]
theorem getM_does {n : List UInt8} {c : Chg} (h1 : c.fr ≠ n) (h2 : c.to ≠ n) (m : NM) : getM n (doesC m c) = getM n m := by
  unfold doesC
  simp only []
  by_cases e1 : c.fr = []
  · rw [if_pos e1]
    split
    · rfl
    · exact getM_put h2 m
  · rw [if_neg e1]
    split
    · exact getM_del h1 m
    · rw [getM_put h2, getM_del h1]
structure Held (s : Dsk) (n : Nm) (f : Nat) (d : List UInt8) : Prop where
  names : getM n s.names = some f
  last : getM n s.last = some f
  onN : ∀ p ∈ s.names, p.2 = f → p.1 = n
  onL : ∀ p ∈ s.last, p.2 = f → p.1 = n
  chg : ∀ c ∈ s.chg, c.fr ≠ n ∧ c.to ≠ n ∧ (c.to ≠ [] → c.f.getD 0 ≠ f)
  file : s.files[f]? = some ⟨d, d.length⟩
section
variable {s : Dsk} {n : Nm} {f : Nat} {d : List UInt8}
theorem only_does {m : NM} {c : Chg} (hm : ∀ p ∈ m, p.2 = f → p.1 = n) (hc : c.to ≠ [] → c.f.getD 0 ≠ f) : ∀ p ∈ doesC m c, p.2 = f → p.1 = n := by
  intro p hp e
  rcases doesC_mem hp with h | ⟨h, rfl⟩
  · exact hm p h e
  · exact absurd e (hc h)
theorem Held.burn (h : Held s n f d) : Held s.burn n f d := by
  obtain ⟨h1, h2, h3, h4, _, _⟩ := @Dsk.burn_same s
  exact ⟨by rw [h2]; exact h.names, by rw [h3]; exact h.last, by rw [h2]; exact h.onN, by rw [h3]; exact h.onL, by rw [h4]; exact h.chg, by rw [h1]; exact h.file⟩
theorem Held.changed (h : Held s n f d) {c : Chg} (h1 : c.fr ≠ n) (h2 : c.to ≠ n) (h3 : c.to ≠ [] → c.f.getD 0 ≠ f) : Held (s.changed c).1 n f d := by
  have hb := h.burn
  unfold Dsk.changed
  split
  · exact hb
  · refine ⟨by simp only []; rw [getM_does h1 h2]; exact hb.names, hb.last, only_does hb.onN h3, hb.onL, fun x hx => ?_, hb.file⟩
    simp only [List.mem_append, List.mem_singleton] at hx
    rcases hx with hx | rfl
    · exact hb.chg x hx
    · exact ⟨h1, h2, h3⟩
theorem all_does {cs : List Chg} : ∀ (m : NM), getM n m = some f → (∀ p ∈ m, p.2 = f → p.1 = n) → (∀ c ∈ cs, c.fr ≠ n ∧ c.to ≠ n ∧ (c.to ≠ [] → c.f.getD 0 ≠ f)) → getM n (cs.foldl doesC m) = some f ∧ ∀ p ∈ cs.foldl doesC m, p.2 = f → p.1 = n := by
  induction cs with
  | nil => exact fun m h1 h2 _ => ⟨h1, h2⟩
  | cons c cs ih =>
    intro m h1 h2 h3
    obtain ⟨a, b, e⟩ := h3 c (by simp)
    exact ih (doesC m c) (by rw [getM_does a b]; exact h1) (only_does h2 e) (fun x hx => h3 x (List.mem_cons_of_mem _ hx))
theorem crashGo_held (c : Cra) (f : Nat) (d : List UInt8) : ∀ (m : NM) (fs : List Fil) (k : Nat), fs[f]? = some ⟨d, d.length⟩ → (crashGo c m fs k)[f]? = some ⟨d, d.length⟩
  | [], fs, k, h => h
  | p :: r, fs, k, h => by
    unfold crashGo
    cases hp : fs[p.2]? with
    | none => exact crashGo_held c f d r fs k h
    | some g =>
      simp only []
      split
      · rename_i hlt
        refine crashGo_held c f d r _ _ ?_
        have hne : p.2 ≠ f := by
          rintro e
          rw [e, h] at hp
          injection hp with hp
          subst hp
          simp at hlt
        rw [List.getElem?_set_ne hne]
        exact h
      · exact crashGo_held c f d r fs k h
theorem Held.crash (h : Held s n f d) (c : Cra) : Held (s.crash c) n f d := by
  have := all_does (cs := s.chg.take (min (max c.names 0) s.chg.length).toNat) s.last h.last h.onL (fun x hx => h.chg x (List.mem_of_mem_take hx))
  unfold Dsk.crash
  exact ⟨this.1, this.1, this.2, this.2, (fun x hx => (by cases hx)), crashGo_held c f d _ _ _ h.file⟩
theorem Held.other (h : Held s n f d) {m : Nm} (hm : m ≠ n) {i : Nat} (hi : getM m s.names = some i) : i ≠ f := by
  rintro rfl
  exact hm (h.onN _ (getM_mem hi) rfl)
theorem Held.setF (h : Held s n f d) {i : Nat} (hi : i ≠ f) (g : Fil → Fil) : Held (s.setF i g) n f d := by
  refine ⟨h.names, h.last, h.onN, h.onL, h.chg, ?_⟩
  unfold Dsk.setF
  simp only []
  split
  · rw [List.getElem?_set_ne hi]; exact h.file
  · exact h.file
theorem Held.create (h : Held s n f d) (hn : n ≠ []) {m : Nm} (hm : m ≠ n) : Held (s.create m).1 n f d := by
  unfold Dsk.create
  split
  · exact h
  · split
    · exact h
    · split
      · have hf : f < s.files.length := (List.getElem?_eq_some_iff.1 h.file).1
        have h2 : Held { s with files := s.files ++ [⟨[], 0⟩] } n f d := ⟨h.names, h.last, h.onN, h.onL, h.chg, by rw [List.getElem?_append_left hf]; exact h.file⟩
        exact h2.changed (fun e => hn e.symm) hm (fun _ => by simp only [Option.getD_some]; omega)
      · exact h
theorem Held.delete (h : Held s n f d) (hn : n ≠ []) {m : Nm} (hm : m ≠ n) : Held (s.delete m).1 n f d := by
  unfold Dsk.delete
  split
  · exact h
  · split
    · exact h
    · exact h.changed hm (fun e => hn e.symm) (fun e => absurd rfl e)
theorem Held.rename (h : Held s n f d) {a b : Nm} (ha : a ≠ n) (hb : b ≠ n) : Held (s.rename a b).1 n f d := by
  unfold Dsk.rename
  split
  · exact h
  · split
    · split
      · exact h
      · rename_i i hi
        split
        · exact h.burn
        · exact h.changed ha hb (fun _ => h.other ha hi)
    · exact h
theorem Held.append (h : Held s n f d) {m : Nm} (hm : m ≠ n) (x : List UInt8) : Held (s.append m x).1 n f d := by
  unfold Dsk.append
  split
  · exact h
  · split
    · exact h
    · rename_i i hi
      split
      · exact h
      · split
        · exact h.burn
        · exact h.burn.setF (h.other hm hi) _
theorem Held.sync (h : Held s n f d) {m : Nm} (hm : m ≠ n) : Held (s.sync m).1 n f d := by
  unfold Dsk.sync
  split
  · exact h
  · split
    · exact h
    · rename_i i hi
      split
      · exact h.burn
      · exact h.burn.setF (h.other hm hi) _
theorem Held.dirsync (h : Held s n f d) : Held s.dirsync.1 n f d := by
  unfold Dsk.dirsync
  split
  · exact h
  · split
    · exact h.burn
    · exact ⟨h.burn.names, h.burn.names, h.burn.onN, h.burn.onN, (fun x hx => (by cases hx)), h.burn.file⟩
theorem Held.start (h : Held s n f d) : Held s.start n f d := ⟨h.names, h.last, h.onN, h.onL, h.chg, h.file⟩
theorem Held.setFuse (h : Held s n f d) (k : Int) : Held (s.setFuse k) n f d := ⟨h.names, h.last, h.onN, h.onL, h.chg, h.file⟩
theorem Held.read (h : Held s n f d) (ho : s.off = false) : s.read n = (d, 0) := by
  unfold Dsk.read
  rw [if_neg (by rw [ho]; decide), h.names]
  simp only [h.file]
/-- Behind a Sync of the name and a DirSync, the power on and no fuse. -/
theorem held_begin (hd : s.Dir) (ho : s.off = false) (hf : s.fuse = 0) {i : Nat} (hg : getM n s.names = some i) (ok : s.Ok) : ∃ f d, Held (s.sync n).1.dirsync.1 n f d ∧ (s.sync n).2 = 0 ∧ (s.sync n).1.dirsync.2 = 0 ∧ (s.sync n).1.dirsync.1.read n = (d, 0) := by
  have hb : s.burn = s := Dsk.burn_zero (by omega)
  obtain ⟨g, hi⟩ : ∃ g, s.files[i]? = some g := ⟨_, List.getElem?_eq_getElem (ok.names _ (getM_mem hg)).2⟩
  have hs : s.sync n = (s.setF i fun f => ⟨f.d, f.d.length⟩, 0) := by
    unfold Dsk.sync
    rw [if_neg (by rw [ho]; decide), hg]
    simp only []
    rw [hb, if_neg (by rw [ho]; decide)]
  have hb2 : (s.setF i fun f => ⟨f.d, f.d.length⟩).burn = s.setF i fun f => ⟨f.d, f.d.length⟩ := Dsk.burn_zero (by show ¬ 0 < s.fuse; omega)
  have hds : (s.setF i fun f => ⟨f.d, f.d.length⟩).dirsync = ({ s.setF i (fun f => ⟨f.d, f.d.length⟩) with last := s.names, chg := [] }, 0) := by
    unfold Dsk.dirsync
    have ho2 : (s.setF i fun f => ⟨f.d, f.d.length⟩).off = false := ho
    rw [if_neg (by rw [ho2]; decide), hb2, if_neg (by rw [ho2]; decide)]
    rfl
  rw [hs]
  simp only []
  rw [hds]
  have hlt := (List.getElem?_eq_some_iff.1 hi).1
  have hon : ∀ p ∈ s.names, p.2 = i → p.1 = n := fun p hp e => by
    have := hd.cur.inj hp (getM_mem hg) e
    rw [this]
  have hh : Held { s.setF i (fun f => ⟨f.d, f.d.length⟩) with last := s.names, chg := [] } n i g.d := by
    refine ⟨hg, hg, hon, hon, (fun x hx => (by cases hx)), ?_⟩
    unfold Dsk.setF
    simp only [hi]
    rw [List.getElem?_set_self hlt]
  exact ⟨i, g.d, hh, (by trivial), (by trivial), hh.read ho⟩
end
end Go.Proofs.Ytkhicfoikkllmaa
