/- DiskTail: what a crash leaves of a file's tail. No program in sight. -/
import Derived.Test.YtkhicfoikkllmaaLastS3
namespace Go.Proofs.Ytkhicfoikkllmaa
set_option linter.unusedVariables false
set_option linter.unusedSimpArgs false
theorem xorAt_other (l : List UInt8) (i : Nat) (m : UInt8) {p : Nat} (hp : p ≠ i) : (xorAt l i m)[p]? = l[p]? := by
  unfold xorAt
  cases l[i]? with
  | none => rfl
  | some x => exact List.getElem?_set_ne (fun e => hp e.symm)
theorem spoil_other (a m : Nat) {p : Nat} : ∀ (n : Nat) (l : List UInt8), (p < a ∨ a + n ≤ p) → ((List.range n).foldl (fun l i => xorAt l (a + i) (UInt8.ofNat (m / 2 ^ (8 * i)))) l)[p]? = l[p]?
  | 0, l, _ => rfl
  | n + 1, l, h => by
    rw [List.range_succ, List.foldl_append]
    show (xorAt _ (a + n) _)[p]? = _
    rw [xorAt_other _ _ _ (by omega)]
    exact spoil_other a m n l (by omega)
theorem spoilT_other (l : List UInt8) (at_ : Int) (m : Nat) : ∃ a, ∀ p, (p < a ∨ a + 4 ≤ p) → (spoilT l at_ m)[p]? = l[p]? := by
  unfold spoilT
  simp only []
  refine ⟨(at_ % (l.length : Int)).toNat, fun p hp => spoil_other _ _ _ _ ?_⟩
  omega
theorem tailC_at (c : Cra) (k : Nat) (t : List UInt8) : ∃ a, ∀ p, p < (tailC c k t).length → (p < a ∨ a + 4 ≤ p) → (tailC c k t)[p]? = t[p]? := by
  have htk : ∀ p, p < (t.take (keepN c k t.length)).length → (t.take (keepN c k t.length))[p]? = t[p]? := fun p hp => by
    rw [List.length_take] at hp
    rw [List.getElem?_take, if_pos (by omega)]
  have hlen := tailC_len c k t
  unfold tailC at hlen ⊢
  simp only [] at hlen ⊢
  split
  · exact ⟨0, fun p hp _ => htk p hp⟩
  · split
    · rename_i a m _
      obtain ⟨q, hq⟩ := spoilT_other (t.take (keepN c k t.length)) a m
      refine ⟨q, fun p hp h => ?_⟩
      rw [hq p h]
      refine htk p ?_
      have hs : (spoilT (t.take (keepN c k t.length)) a m).length = (t.take (keepN c k t.length)).length := by
        unfold spoilT
        exact spoil_len _ _ _ _
      rw [hs] at hp
      exact hp
    · exact ⟨0, fun p hp _ => htk p hp⟩
/-- What is there of a file behind a crash. -/
structure TailB (f : Fil) (b : List UInt8) : Prop where
  lo : f.k ≤ b.length
  hi : b.length ≤ f.d.length
  same : b.take f.k = f.d.take f.k
  spot : ∃ q, ∀ p, f.k ≤ p → p < b.length → b[p]? ≠ f.d[p]? → q ≤ p ∧ p < q + 4
theorem TailB.refl {f : Fil} (h : f.k ≤ f.d.length) : TailB f f.d := ⟨h, Nat.le_refl _, rfl, 0, fun p _ _ h => absurd rfl h⟩
theorem TailB.crash {f : Fil} (h : f.k ≤ f.d.length) (c : Cra) (k : Nat) : TailB f (crashF c k f).d := by
  have hl : (f.d.take f.k).length = f.k := by rw [List.length_take]; omega
  have ht := tailC_len c k (f.d.drop f.k)
  have hk := keepN_le c k (f.d.drop f.k).length
  obtain ⟨a, ha⟩ := tailC_at c k (f.d.drop f.k)
  have hd : (f.d.drop f.k).length = f.d.length - f.k := List.length_drop
  refine ⟨?_, ?_, ?_, f.k + a, fun p h1 h2 h3 => ?_⟩
  · show f.k ≤ (f.d.take f.k ++ _).length
    rw [List.length_append]
    omega
  · show (f.d.take f.k ++ _).length ≤ _
    rw [List.length_append]
    omega
  · show (f.d.take f.k ++ _).take f.k = _
    rw [List.take_append_of_le_length (by omega), List.take_of_length_le (by omega)]
  · change (f.d.take f.k ++ tailC c k (f.d.drop f.k))[p]? ≠ f.d[p]? at h3
    change p < (f.d.take f.k ++ tailC c k (f.d.drop f.k)).length at h2
    rw [List.length_append] at h2
    rw [List.getElem?_append_right (by omega), hl] at h3
    by_cases hq : p - f.k < a ∨ a + 4 ≤ p - f.k
    · have := ha (p - f.k) (by omega) hq
      rw [this, List.getElem?_drop, show f.k + (p - f.k) = p from by omega] at h3
      exact absurd rfl h3
    · omega
theorem crashF_none (k : Nat) (f : Fil) : (crashF ⟨0, [], []⟩ k f).d = f.d.take f.k := by
  have : tailC ⟨0, [], []⟩ k (f.d.drop f.k) = [] := by
    unfold tailC keepN
    simp
  show f.d.take f.k ++ tailC ⟨0, [], []⟩ k (f.d.drop f.k) = _
  rw [this, List.append_nil]
/-- Each file that has a name is what it was, or what the crash makes of it. -/
theorem crashGo_file (c : Cra) (i : Nat) (f : Fil) (hf : f.k ≤ f.d.length) : ∀ (m : NM) (fs : List Fil) (k : Nat), (∃ p ∈ m, p.2 = i) → fs[i]? = some f → ∃ f', (crashGo c m fs k)[i]? = some f' ∧ ((f' = f ∧ f.k = f.d.length) ∨ ∃ j, f' = crashF c j f)
  | [], fs, k, ⟨p, hp, _⟩, h => by cases hp
  | p :: r, fs, k, hm, h => by
    by_cases hi : p.2 = i
    · unfold crashGo
      rw [hi, h]
      simp only []
      by_cases hlt : f.k < f.d.length
      · rw [if_pos hlt]
        have hil := (List.getElem?_eq_some_iff.1 h).1
        have h2 : (fs.set i (crashF c k f))[i]? = some ⟨(crashF c k f).d, (crashF c k f).d.length⟩ := by
          rw [List.getElem?_set_self hil]
          rfl
        exact ⟨_, crashGo_held c i (crashF c k f).d r _ _ h2, .inr ⟨k, rfl⟩⟩
      · rw [if_neg hlt]
        have e : f.k = f.d.length := by omega
        have h2 : fs[i]? = some ⟨f.d, f.d.length⟩ := by rw [h, ← e]
        exact ⟨_, crashGo_held c i f.d r _ _ h2, .inl ⟨by rw [← e], e⟩⟩
    · have hm2 : ∃ q ∈ r, q.2 = i := by
        obtain ⟨q, hq, e⟩ := hm
        rcases List.mem_cons.1 hq with rfl | h1
        · exact absurd e hi
        · exact ⟨q, h1, e⟩
      unfold crashGo
      cases hp : fs[p.2]? with
      | none => exact crashGo_file c i f hf r fs k hm2 h
      | some g =>
        simp only []
        split
        · exact crashGo_file c i f hf r _ _ hm2 (by rw [List.getElem?_set_ne hi]; exact h)
        · exact crashGo_file c i f hf r fs k hm2 h
theorem crash_all {s : Dsk} (hl : s.last = s.names) (hc : s.chg = []) (c : Cra) : (s.crash c).names = s.names ∧ (s.crash c).files = crashGo c s.names s.files 0 ∧ (s.crash c).last = s.names := by
  unfold Dsk.crash
  simp [hc, hl]
theorem read_at {s : Dsk} {n : Nm} {i : Nat} {f : Fil} (ho : s.off = false) (hg : getM n s.names = some i) (hf : s.files[i]? = some f) : s.read n = (f.d, 0) := by
  unfold Dsk.read
  rw [if_neg (by rw [ho]; decide), hg]
  simp only [hf]
theorem tail_law {s : Dsk} (ok : s.Ok) (ho : s.off = false) (hl : s.last = s.names) (hc : s.chg = []) (c : Cra) {n : Nm} {i : Nat} (hg : getM n s.names = some i) :
    ∃ f b, f.k ≤ f.d.length ∧ f.d.length ≤ 1048576 ∧ (s.crash ⟨0, [], []⟩).start.read n = (f.d.take f.k, 0) ∧ (s.crash c).start.read n = (b, 0) ∧ s.read n = (f.d, 0) ∧ TailB f b := by
  obtain ⟨h24, hil⟩ := ok.names _ (getM_mem hg)
  have hf : s.files[i]? = some s.files[i] := List.getElem?_eq_getElem hil
  obtain ⟨hk, hd⟩ := ok.file _ (List.getElem_mem hil)
  generalize s.files[i] = f at *
  have key : ∀ c, ∃ f', (s.crash c).start.read n = (f'.d, 0) ∧ ((f' = f ∧ f.k = f.d.length) ∨ ∃ j, f' = crashF c j f) := fun c => by
    obtain ⟨e1, e2, e3⟩ := crash_all hl hc c
    obtain ⟨f', h1, h2⟩ := crashGo_file c i f hk s.names s.files 0 ⟨_, getM_mem hg, rfl⟩ hf
    exact ⟨f', read_at (s := (s.crash c).start) rfl (by show getM n (s.crash c).names = _; rw [e1]; exact hg) (by show (s.crash c).files[i]? = _; rw [e2]; exact h1), h2⟩
  obtain ⟨fa, ra, ha⟩ := key ⟨0, [], []⟩
  obtain ⟨fb, rb, hb⟩ := key c
  refine ⟨f, fb.d, hk, hd, ?_, rb, read_at ho hg hf, ?_⟩
  · rw [ra]
    rcases ha with ⟨rfl, e⟩ | ⟨j, rfl⟩
    · rw [e, List.take_length]
    · rw [crashF_none]
  · rcases hb with ⟨rfl, e⟩ | ⟨j, rfl⟩
    · exact .refl hk
    · exact .crash hk c j
/-- Behind a DirSync without a fuse: the names last. -/
theorem tail_begin {s : Dsk} : ((s.start.setFuse 0).dirsync).2 = 0 ∧ ((s.start.setFuse 0).dirsync).1.off = false ∧ ((s.start.setFuse 0).dirsync).1.last = ((s.start.setFuse 0).dirsync).1.names ∧ ((s.start.setFuse 0).dirsync).1.chg = [] := by
  have ho : (s.start.setFuse 0).off = false := rfl
  have hf : (s.start.setFuse 0).fuse = 0 := rfl
  have hb : (s.start.setFuse 0).burn = s.start.setFuse 0 := Dsk.burn_zero (by omega)
  unfold Dsk.dirsync
  rw [if_neg (by rw [ho]; decide), hb, if_neg (by rw [ho]; decide)]
  exact ⟨rfl, ho, rfl, rfl⟩
end Go.Proofs.Ytkhicfoikkllmaa
