/- The directory behind every prefix of the changes: each file has one name. No program in sight. -/
import Derived.Test.YtkhicfoikkllmaaOkS
namespace Go.Proofs.Ytkhicfoikkllmaa
set_option linter.unusedVariables false
set_option linter.unusedSimpArgs false
/-- Each file has one name. -/
def One (m : NM) : Prop := (m.map fun p => p.2).Nodup ∧ ∀ p ∈ m, p.1 ≠ []
theorem insM_perm (x : List UInt8 × Nat) : ∀ m : NM, (insM x m).Perm (x :: m)
  | [] => List.Perm.refl _
  | y :: r => by
    unfold insM
    split
    · exact List.Perm.refl _
    · exact ((insM_perm x r).cons y).trans (List.Perm.swap x y r)
theorem One.del {m : NM} (h : One m) (k : List UInt8) : One (delM k m) := by
  refine ⟨?_, fun p hp => h.2 p ((delM_mem k p m).1 hp).1⟩
  unfold delM
  exact h.1.sublist (List.filter_sublist.map _)
theorem One.put {m : NM} (h : One m) {k : List UInt8} {v : Nat} (hv : ∀ p ∈ m, p.2 = v → p.1 = k) (hk : k ≠ []) : One (putM k v m) := by
  refine ⟨?_, fun p hp => ?_⟩
  rotate_left
  · rcases (putM_mem k v p m).1 hp with rfl | h1
    · exact hk
    · exact h.2 p h1.1
  unfold putM
  rw [((insM_perm (k, v) (delM k m)).map fun p => p.2).nodup_iff, List.map_cons, List.nodup_cons]
  refine ⟨fun hm => ?_, (h.del k).1⟩
  obtain ⟨p, hp, e⟩ := List.mem_map.1 hm
  have := (delM_mem k p m).1 hp
  exact this.2 (hv p this.1 e)
theorem One.inj {m : NM} (h : One m) {p q : List UInt8 × Nat} (hp : p ∈ m) (hq : q ∈ m) (e : p.2 = q.2) : p = q := by
  replace h := h.1
  induction m with
  | nil => cases hp
  | cons y r ih =>
    rw [List.map_cons, List.nodup_cons] at h
    obtain ⟨h1, h2⟩ := h
    rcases List.mem_cons.1 hp with ep | hp'
    · rcases List.mem_cons.1 hq with eq | hq'
      · rw [ep, eq]
      · exact absurd (List.mem_map.2 ⟨q, hq', by rw [← e, ep]⟩) h1
    · rcases List.mem_cons.1 hq with eq | hq'
      · exact absurd (List.mem_map.2 ⟨p, hp', by rw [e, eq]⟩) h1
      · exact ih hp' hq' h2
/-- The directory is what the changes make of the lasting one; behind each of them each file has one name. -/
structure Dsk.Dir (s : Dsk) : Prop where
  now : s.names = s.chg.foldl doesC s.last
  one : ∀ j, One ((s.chg.take j).foldl doesC s.last)
theorem Dsk.Dir.cur {s : Dsk} (h : s.Dir) : One s.names := by
  have := h.one s.chg.length
  rw [List.take_length, ← h.now] at this
  exact this
theorem Dsk.Dir.of_eq {s t : Dsk} (h : s.Dir) (h1 : t.names = s.names) (h2 : t.last = s.last) (h3 : t.chg = s.chg) : t.Dir := ⟨by rw [h1, h2, h3]; exact h.now, by rw [h2, h3]; exact h.one⟩
theorem Dsk.Dir.burn {s : Dsk} (h : s.Dir) : s.burn.Dir := by
  obtain ⟨_, h2, h3, h4, _, _⟩ := @Dsk.burn_same s
  exact h.of_eq h2 h3 h4
theorem Dsk.Dir.changed {s : Dsk} (h : s.Dir) {c : Chg} (hc : One (doesC s.names c)) : (s.changed c).1.Dir := by
  obtain ⟨e1, e2, e3, e4, e5, e6⟩ := @Dsk.burn_same s
  have hb := h.burn
  unfold Dsk.changed
  split
  · exact hb
  · refine ⟨?_, fun j => ?_⟩
    · simp only [List.foldl_append, List.foldl_cons, List.foldl_nil]
      rw [hb.now]
    · simp only []
      by_cases hj : j ≤ s.burn.chg.length
      · rw [List.take_append_of_le_length hj]
        exact hb.one j
      · rw [List.take_of_length_le (by simp; omega), List.foldl_append, ← hb.now, e2]
        exact hc
theorem Dsk.Dir.create {s : Dsk} (h : s.Dir) (ok : s.Ok) (n : Nm) : (s.create n).1.Dir := by
  unfold Dsk.create
  split
  · exact h
  · split
    · exact h
    · split
      · refine Dsk.Dir.changed (s := { s with files := s.files ++ [⟨[], 0⟩] }) (h.of_eq rfl rfl rfl) ?_
        unfold doesC
        simp only [if_true, Option.getD_some]
        split
        · exact h.cur
        · rename_i hne
          exact h.cur.put (fun p hp e => by have := (ok.names p hp).2; omega) hne
      · exact h
theorem Dsk.Dir.delete {s : Dsk} (h : s.Dir) (n : Nm) : (s.delete n).1.Dir := by
  unfold Dsk.delete
  split
  · exact h
  · split
    · exact h
    · refine h.changed ?_
      unfold doesC
      simp only [if_true]
      split
      · exact h.cur
      · exact h.cur.del n
theorem Dsk.Dir.rename {s : Dsk} (h : s.Dir) (a b : Nm) : (s.rename a b).1.Dir := by
  unfold Dsk.rename
  split
  · exact h
  · split
    · split
      · exact h
      · rename_i i hi
        split
        · exact h.burn
        · refine h.changed ?_
          unfold doesC
          simp only [Option.getD_some]
          have hm := getM_mem hi
          by_cases ea : a = []
          · rw [if_pos ea]
            split
            · exact h.cur
            · exact absurd ea (h.cur.2 _ hm)
          · rw [if_neg ea]
            split
            · exact h.cur.del a
            · rename_i hb
              refine (h.cur.del a).put (fun p hp e => ?_) hb
              have h2 := (delM_mem a p _).1 hp
              have := h.cur.inj h2.1 hm e
              exact absurd (by rw [this]) h2.2
    · exact h
theorem Dsk.setF_same (s : Dsk) (i : Nat) (g : Fil → Fil) : (s.setF i g).names = s.names ∧ (s.setF i g).last = s.last ∧ (s.setF i g).chg = s.chg := ⟨rfl, rfl, rfl⟩
theorem Dsk.Dir.append {s : Dsk} (h : s.Dir) (n : Nm) (x : List UInt8) : (s.append n x).1.Dir := by
  unfold Dsk.append
  split
  · exact h
  · split
    · exact h
    · split
      · exact h
      · split
        · exact h.burn
        · exact h.burn.of_eq rfl rfl rfl
theorem Dsk.Dir.sync {s : Dsk} (h : s.Dir) (n : Nm) : (s.sync n).1.Dir := by
  unfold Dsk.sync
  split
  · exact h
  · split
    · exact h
    · split
      · exact h.burn
      · exact h.burn.of_eq rfl rfl rfl
theorem Dsk.Dir.dirsync {s : Dsk} (h : s.Dir) : s.dirsync.1.Dir := by
  unfold Dsk.dirsync
  split
  · exact h
  · split
    · exact h.burn
    · exact ⟨rfl, fun j => by simp only [List.take_nil, List.foldl_nil]; exact h.burn.cur⟩
theorem Dsk.Dir.start {s : Dsk} (h : s.Dir) : s.start.Dir := h.of_eq rfl rfl rfl
theorem Dsk.Dir.setFuse {s : Dsk} (h : s.Dir) (n : Int) : (s.setFuse n).Dir := h.of_eq rfl rfl rfl
theorem Dsk.Dir.crash {s : Dsk} (h : s.Dir) (c : Cra) : (s.crash c).Dir := by
  unfold Dsk.crash
  exact ⟨rfl, fun j => by simp only [List.take_nil, List.foldl_nil]; exact h.one _⟩
theorem Dsk.Dir.new (r : Int) : (Dsk.new r).Dir := ⟨rfl, fun j => by
  unfold Dsk.new
  simp only [List.take_nil, List.foldl_nil]
  exact ⟨List.nodup_nil, fun p hp => by cases hp⟩⟩
end Go.Proofs.Ytkhicfoikkllmaa
