/- DiskFuse: what a fuse does to an act. No program in sight. -/
import Derived.Test.YtkhicfoikkllmaaLastS3
namespace Go.Proofs.Ytkhicfoikkllmaa
set_option linter.unusedVariables false
set_option linter.unusedSimpArgs false
def Dsk.fused (s : Dsk) (k : Nat) : Dsk := { s with fuse := k }
theorem Dsk.Good.fused {s : Dsk} {m k : Nat} (g : s.Good m) (hk : k ≤ 1000) : (s.fused k).Good m := by
  have h := g.setFuse (n := (k : Int)) (by omega)
  have e : s.setFuse (k : Int) = s.fused k := by
    unfold Dsk.setFuse Dsk.fused
    rw [show (max (k : Int) 0).toNat = k from by omega]
  rw [← e]
  exact h
/-- An act beside the same one with a fuse. -/
def FuseStep (s : Dsk) (k : Nat) (rb ra : Dsk × Nat) : Prop :=
  rb.1.off = false ∧ rb.1.fuse = 0 ∧ ((rb.2 ≠ 0 ∧ ra = (rb.1.fused k, rb.2)) ∨
    (rb.2 = 0 ∧ ((k = 1 ∧ ra.2 = 7 ∧ ra.1.off = true ∧ ∃ g, ra.1.start = { s with files := s.files ++ g }) ∨ (1 < k ∧ ra = (rb.1.fused (k - 1), 0)))))
section
variable {s : Dsk} {k : Nat}
theorem burn0 (hf : s.fuse = 0) : s.burn = s := Dsk.burn_zero (by omega)
theorem burn1 (s : Dsk) : (s.fused 1).burn = { s with fuse := 0, off := true } := by
  rw [Dsk.burn_pos (by show 0 < 1; decide)]
  rfl
theorem burn2 (ho : s.off = false) (hk : 1 < k) : (s.fused k).burn = s.fused (k - 1) := by
  rw [Dsk.burn_pos (by show 0 < k; omega)]
  unfold Dsk.fused
  simp only []
  have : (k - 1 == 0) = false := by simp; omega
  rw [this, ← ho]
theorem refused (ho : s.off = false) (hf : s.fuse = 0) {e : Nat} (he : e ≠ 0) : FuseStep s k (s, e) (s.fused k, e) := ⟨ho, hf, .inl ⟨he, rfl⟩⟩
theorem start_back (ho : s.off = false) (hf : s.fuse = 0) (g : List Fil) : ({ s with fuse := 0, off := true, files := s.files ++ g } : Dsk).start = { s with files := s.files ++ g } := by
  obtain ⟨a, b, c, d, e, f, h⟩ := s
  simp only [] at ho hf
  subst ho hf
  rfl
theorem start_back0 (ho : s.off = false) (hf : s.fuse = 0) : ({ s with fuse := 0, off := true } : Dsk).start = { s with files := s.files ++ [] } := by
  rw [← start_back ho hf []]
  simp only [List.append_nil]
theorem changed_step (ho : s.off = false) (hf : s.fuse = 0) (hk : 0 < k) (g : List Fil) (c : Chg) : FuseStep s k (({ s with files := s.files ++ g } : Dsk).changed c) ((({ s with files := s.files ++ g } : Dsk).fused k).changed c) := by
  have hb := burn0 (s := { s with files := s.files ++ g }) hf
  have hbo : ¬ (({ s with files := s.files ++ g } : Dsk).burn.off = true) := by rw [hb]; show ¬ (s.off = true); rw [ho]; decide
  unfold Dsk.changed
  rw [if_neg hbo, hb]
  refine ⟨ho, hf, .inr ⟨rfl, ?_⟩⟩
  by_cases h1 : k = 1
  · subst h1
    rw [burn1, if_pos rfl]
    exact .inl ⟨rfl, rfl, rfl, g, start_back ho hf g⟩
  · have h2 : 1 < k := by omega
    rw [burn2 (s := { s with files := s.files ++ g }) ho h2, if_neg (by show ¬ (s.off = true); rw [ho]; decide)]
    exact .inr ⟨h2, rfl⟩
theorem changed_step0 (ho : s.off = false) (hf : s.fuse = 0) (hk : 0 < k) (c : Chg) : FuseStep s k (s.changed c) ((s.fused k).changed c) := by
  have h := changed_step ho hf hk [] c
  simp only [List.append_nil] at h
  exact h
/-- An operation that burns and then does what does not look at the fuse. -/
theorem burns_step (ho : s.off = false) (hf : s.fuse = 0) (hk : 0 < k) (F : Dsk → Dsk) (h1 : ∀ t j, F (Dsk.fused t j) = (F t).fused j) (h2 : ∀ t, (F t).off = t.off) (h3 : ∀ t, (F t).fuse = t.fuse) :
    FuseStep s k (if s.burn.off then (s.burn, 7) else (F s.burn, 0)) (if (s.fused k).burn.off then ((s.fused k).burn, 7) else (F (s.fused k).burn, 0)) := by
  have hb := burn0 hf
  rw [hb, if_neg (by rw [ho]; decide)]
  refine ⟨by rw [h2]; exact ho, by rw [h3]; exact hf, .inr ⟨rfl, ?_⟩⟩
  by_cases e1 : k = 1
  · subst e1
    rw [burn1, if_pos rfl]
    exact .inl ⟨rfl, rfl, rfl, [], start_back0 ho hf⟩
  · have e2 : 1 < k := by omega
    rw [burn2 ho e2, if_neg (by show ¬ (s.off = true); rw [ho]; decide)]
    exact .inr ⟨e2, by rw [h1]⟩
theorem setF_fused (t : Dsk) (j i : Nat) (g : Fil → Fil) : (t.fused j).setF i g = (t.setF i g).fused j := rfl
theorem create_step (ho : s.off = false) (hf : s.fuse = 0) (hk : 0 < k) (n : Nm) : FuseStep s k (s.create n) ((s.fused k).create n) := by
  have ho' : ¬ (s.off = true) := by rw [ho]; decide
  have ho2 : ¬ ((s.fused k).off = true) := ho'
  unfold Dsk.create
  rw [if_neg ho', if_neg ho2, show (s.fused k).names = s.names from rfl]
  cases getM n s.names with
  | some i => exact refused ho hf (by decide)
  | none =>
    simp only []
    by_cases hr : rightB n = true
    · rw [if_pos hr, if_pos hr]
      exact changed_step ho hf hk _ _
    · rw [if_neg hr, if_neg hr]
      exact refused ho hf (by decide)
theorem append_step (ho : s.off = false) (hf : s.fuse = 0) (hk : 0 < k) (n : Nm) (x : List UInt8) : FuseStep s k (s.append n x) ((s.fused k).append n x) := by
  have ho' : ¬ (s.off = true) := by rw [ho]; decide
  have ho2 : ¬ ((s.fused k).off = true) := ho'
  unfold Dsk.append
  rw [if_neg ho', if_neg ho2, show (s.fused k).names = s.names from rfl]
  cases getM n s.names with
  | none => exact refused ho hf (by decide)
  | some i =>
    simp only []
    rw [show (s.fused k).room = s.room from rfl, show (s.fused k).used = s.used from rfl]
    by_cases hr : s.room < s.used + x.length
    · rw [if_pos hr, if_pos hr]
      exact refused ho hf (by decide)
    · rw [if_neg hr, if_neg hr]
      exact burns_step ho hf hk (fun t => t.setF i fun f => ⟨f.d ++ x, f.k⟩) (fun t j => rfl) (fun t => rfl) (fun t => rfl)
theorem sync_step (ho : s.off = false) (hf : s.fuse = 0) (hk : 0 < k) (n : Nm) : FuseStep s k (s.sync n) ((s.fused k).sync n) := by
  have ho' : ¬ (s.off = true) := by rw [ho]; decide
  have ho2 : ¬ ((s.fused k).off = true) := ho'
  unfold Dsk.sync
  rw [if_neg ho', if_neg ho2, show (s.fused k).names = s.names from rfl]
  cases getM n s.names with
  | none => exact refused ho hf (by decide)
  | some i =>
    simp only []
    exact burns_step ho hf hk (fun t => t.setF i fun f => ⟨f.d, f.d.length⟩) (fun t j => rfl) (fun t => rfl) (fun t => rfl)
theorem rename_step (ho : s.off = false) (hf : s.fuse = 0) (hk : 0 < k) (a b : Nm) : FuseStep s k (s.rename a b) ((s.fused k).rename a b) := by
  have ho' : ¬ (s.off = true) := by rw [ho]; decide
  have ho2 : ¬ ((s.fused k).off = true) := ho'
  unfold Dsk.rename
  rw [if_neg ho', if_neg ho2, show (s.fused k).names = s.names from rfl]
  by_cases hr : rightB b = true
  · rw [if_pos hr, if_pos hr]
    cases getM a s.names with
    | none => exact refused ho hf (by decide)
    | some i =>
      simp only []
      by_cases e : a = b
      · rw [if_pos e, if_pos e]
        have h := burns_step ho hf hk (fun t => t) (fun t j => rfl) (fun t => rfl) (fun t => rfl)
        have h4 : ∀ t : Dsk, (t.burn, if t.burn.off = true then 7 else 0) = if t.burn.off = true then (t.burn, 7) else (t.burn, 0) := fun t => by split <;> rfl
        rw [h4, h4]
        exact h
      · rw [if_neg e, if_neg e]
        exact changed_step0 ho hf hk _
  · rw [if_neg hr, if_neg hr]
    exact refused ho hf (by decide)
theorem delete_step (ho : s.off = false) (hf : s.fuse = 0) (hk : 0 < k) (n : Nm) : FuseStep s k (s.delete n) ((s.fused k).delete n) := by
  have ho' : ¬ (s.off = true) := by rw [ho]; decide
  have ho2 : ¬ ((s.fused k).off = true) := ho'
  unfold Dsk.delete
  rw [if_neg ho', if_neg ho2, show (s.fused k).names = s.names from rfl]
  cases getM n s.names with
  | none => exact refused ho hf (by decide)
  | some i =>
    simp only []
    exact changed_step0 ho hf hk _
theorem dirsync_step (ho : s.off = false) (hf : s.fuse = 0) (hk : 0 < k) : FuseStep s k s.dirsync (s.fused k).dirsync := by
  have ho' : ¬ (s.off = true) := by rw [ho]; decide
  have ho2 : ¬ ((s.fused k).off = true) := ho'
  unfold Dsk.dirsync
  rw [if_neg ho', if_neg ho2]
  exact burns_step ho hf hk (fun t => { t with last := t.names, chg := [] }) (fun t j => rfl) (fun t => rfl) (fun t => rfl)
/-- An act of either disk. -/
structure ActStep (s : Dsk) (k : Nat) (x : AAct) : Prop where
  off : (s.act x).1.off = false
  fuse : (s.act x).1.fuse = 0
  or : (¬ (x.c < 6 ∧ (s.act x).2.2 = 0) ∧ (s.fused k).act x = ((s.act x).1.fused k, (s.act x).2)) ∨
    (x.c < 6 ∧ (s.act x).2.2 = 0 ∧ ((k = 1 ∧ ((s.fused k).act x).2.2 = 7 ∧ ((s.fused k).act x).1.off = true ∧ ∃ g, ((s.fused k).act x).1.start = { s with files := s.files ++ g }) ∨ (1 < k ∧ (s.fused k).act x = ((s.act x).1.fused (k - 1), (s.act x).2))))
theorem ActStep.of {x : AAct} {rb ra : Dsk × Nat} (hc : x.c < 6) (h : FuseStep s k rb ra) (eb : s.act x = (rb.1, [], rb.2)) (ea : (s.fused k).act x = (ra.1, [], ra.2)) : ActStep s k x := by
  obtain ⟨h1, h2, h3⟩ := h
  refine ⟨by rw [eb]; exact h1, by rw [eb]; exact h2, ?_⟩
  rw [ea, eb]
  simp only []
  rcases h3 with ⟨h4, rfl⟩ | ⟨h4, h5⟩
  · exact .inl ⟨fun e => h4 e.2, rfl⟩
  · rcases h5 with ⟨rfl, h6, h7, h8⟩ | ⟨h6, rfl⟩
    · exact .inr ⟨hc, h4, .inl ⟨rfl, h6, h7, h8⟩⟩
    · exact .inr ⟨hc, h4, .inr ⟨h6, by rw [h4]⟩⟩
theorem act_step (ho : s.off = false) (hf : s.fuse = 0) (hk : 0 < k) (x : AAct) (hx : ¬ (6 ≤ x.c ∧ x.c ≤ 8)) : ActStep s k x := by
  by_cases h0 : x.c = 0
  · exact .of (by omega) (create_step ho hf hk x.na) (by unfold Dsk.act; rw [if_pos h0]) (by unfold Dsk.act; rw [if_pos h0])
  by_cases h1 : x.c = 1
  · exact .of (by omega) (append_step ho hf hk x.na x.nb) (by unfold Dsk.act; rw [if_neg h0, if_pos h1]) (by unfold Dsk.act; rw [if_neg h0, if_pos h1])
  by_cases h2 : x.c = 2
  · exact .of (by omega) (sync_step ho hf hk x.na) (by unfold Dsk.act; rw [if_neg h0, if_neg h1, if_pos h2]) (by unfold Dsk.act; rw [if_neg h0, if_neg h1, if_pos h2])
  by_cases h3 : x.c = 3
  · exact .of (by omega) (rename_step ho hf hk x.na x.nb) (by unfold Dsk.act; rw [if_neg h0, if_neg h1, if_neg h2, if_pos h3]) (by unfold Dsk.act; rw [if_neg h0, if_neg h1, if_neg h2, if_pos h3])
  by_cases h4 : x.c = 4
  · exact .of (by omega) (delete_step ho hf hk x.na) (by unfold Dsk.act; rw [if_neg h0, if_neg h1, if_neg h2, if_neg h3, if_pos h4]) (by unfold Dsk.act; rw [if_neg h0, if_neg h1, if_neg h2, if_neg h3, if_pos h4])
  by_cases h5 : x.c = 5
  · exact .of (by omega) (dirsync_step ho hf hk) (by unfold Dsk.act; rw [if_neg h0, if_neg h1, if_neg h2, if_neg h3, if_neg h4, if_pos h5]) (by unfold Dsk.act; rw [if_neg h0, if_neg h1, if_neg h2, if_neg h3, if_neg h4, if_pos h5])
  have h6 : ¬ x.c = 6 := by omega
  have h7 : ¬ x.c = 7 := by omega
  have h8 : ¬ x.c = 8 := by omega
  have e : ∀ t : Dsk, t.act x = (t, if x.c = 9 then t.read x.na else ([], 0)) := fun t => by
    unfold Dsk.act
    rw [if_neg h0, if_neg h1, if_neg h2, if_neg h3, if_neg h4, if_neg h5, if_neg h6, if_neg h7, if_neg h8]
    split <;> rfl
  refine ⟨by rw [e]; exact ho, by rw [e]; exact hf, .inl ⟨fun h => by omega, ?_⟩⟩
  rw [e, e]
  rfl
end
end Go.Proofs.Ytkhicfoikkllmaa
