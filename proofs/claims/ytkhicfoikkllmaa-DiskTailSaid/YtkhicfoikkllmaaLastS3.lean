/- Acts, and what they do to a disk as plain data. No program in sight. -/
import Derived.Test.YtkhicfoikkllmaaLastS2
namespace Go.Proofs.Ytkhicfoikkllmaa
set_option linter.unusedVariables false
set_option linter.unusedSimpArgs false
structure AAct where
  c : Nat
  a : ByteArray
  b : ByteArray
  n : Int
  cr : Cra
namespace AAct
def na (x : AAct) : List UInt8 := x.a.data.toList
def nb (x : AAct) : List UInt8 := x.b.data.toList
end AAct
/-- What an act does, and what it answers. -/
def Dsk.act (s : Dsk) (x : AAct) : Dsk × (List UInt8 × Nat) :=
  if x.c = 0 then ((s.create x.na).1, [], (s.create x.na).2)
  else if x.c = 1 then ((s.append x.na x.nb).1, [], (s.append x.na x.nb).2)
  else if x.c = 2 then ((s.sync x.na).1, [], (s.sync x.na).2)
  else if x.c = 3 then ((s.rename x.na x.nb).1, [], (s.rename x.na x.nb).2)
  else if x.c = 4 then ((s.delete x.na).1, [], (s.delete x.na).2)
  else if x.c = 5 then (s.dirsync.1, [], s.dirsync.2)
  else if x.c = 6 then (s.setFuse x.n, [], 0)
  else if x.c = 7 then (s.crash x.cr, [], 0)
  else if x.c = 8 then (s.start, [], 0)
  else if x.c = 9 then (s, s.read x.na)
  else (s, [], 0)
/-- What holds of every disk behind so many acts. -/
structure Dsk.Good (s : Dsk) (m : Nat) : Prop where
  ok : s.Ok
  dir : s.Dir
  load : s.load ≤ m
section
variable {s t : Dsk} {m : Nat}
theorem Dsk.Good.more (h : s.Good m) {m' : Nat} (hm : m ≤ m') : s.Good m' := ⟨h.ok, h.dir, Nat.le_trans h.load hm⟩
theorem Dsk.Good.names (h : s.Good m) : s.names.length ≤ m := by
  have h1 := doesAll_len s.chg s.last
  rw [← h.dir.now] at h1
  have h2 := h.load
  unfold Dsk.load at h2
  omega
theorem Dsk.Good.chg (h : s.Good m) : s.chg.length ≤ m := by
  have h2 := h.load
  unfold Dsk.load at h2
  omega
theorem Dsk.load_burn (s : Dsk) : s.burn.load = s.load := by
  obtain ⟨_, _, h3, h4, _, _⟩ := @Dsk.burn_same s
  unfold Dsk.load
  rw [h3, h4]
theorem Dsk.load_changed (s : Dsk) (c : Chg) : (s.changed c).1.load ≤ s.load + 1 := by
  have hb := s.load_burn
  unfold Dsk.changed
  split
  · show s.burn.load ≤ _
    omega
  · unfold Dsk.load at *
    simp only [List.length_append, List.length_singleton] at *
    omega
theorem Dsk.load_create (s : Dsk) (n : Nm) : (s.create n).1.load ≤ s.load + 1 := by
  unfold Dsk.create
  split
  · exact Nat.le_succ _
  · split
    · exact Nat.le_succ _
    · split
      · exact Dsk.load_changed { s with files := s.files ++ [⟨[], 0⟩] } _
      · exact Nat.le_succ _
theorem Dsk.load_append (s : Dsk) (n : Nm) (x : List UInt8) : (s.append n x).1.load ≤ s.load + 1 := by
  have hb := s.load_burn
  unfold Dsk.append
  split
  · exact Nat.le_succ _
  · split
    · exact Nat.le_succ _
    · split
      · exact Nat.le_succ _
      · split
        · show s.burn.load ≤ _
          omega
        · show s.burn.load ≤ _
          omega
theorem Dsk.load_sync (s : Dsk) (n : Nm) : (s.sync n).1.load ≤ s.load + 1 := by
  have hb := s.load_burn
  unfold Dsk.sync
  split
  · exact Nat.le_succ _
  · split
    · exact Nat.le_succ _
    · split
      · show s.burn.load ≤ _
        omega
      · show s.burn.load ≤ _
        omega
theorem Dsk.load_rename (s : Dsk) (a b : Nm) : (s.rename a b).1.load ≤ s.load + 1 := by
  have hb := s.load_burn
  unfold Dsk.rename
  split
  · exact Nat.le_succ _
  · split
    · split
      · exact Nat.le_succ _
      · split
        · show s.burn.load ≤ _
          omega
        · exact Dsk.load_changed _ _
    · exact Nat.le_succ _
theorem Dsk.load_delete (s : Dsk) (n : Nm) : (s.delete n).1.load ≤ s.load + 1 := by
  unfold Dsk.delete
  split
  · exact Nat.le_succ _
  · split
    · exact Nat.le_succ _
    · exact Dsk.load_changed _ _
theorem Dsk.load_dirsync (hd : s.Dir) : s.dirsync.1.load ≤ s.load + 1 := by
  have hb := s.load_burn
  unfold Dsk.dirsync
  split
  · exact Nat.le_succ _
  · split
    · show s.burn.load ≤ _
      omega
    · have h1 := doesAll_len s.burn.chg s.burn.last
      rw [← hd.burn.now] at h1
      unfold Dsk.load at *
      simp only [List.length_nil] at *
      omega
theorem Dsk.load_crash (s : Dsk) (c : Cra) : (s.crash c).load ≤ s.load + 1 := by
  have h1 := doesAll_len (s.chg.take (min (max c.names 0) s.chg.length).toNat) s.last
  rw [List.length_take] at h1
  unfold Dsk.crash
  unfold Dsk.load at *
  simp only [List.length_nil] at *
  omega
theorem Dsk.Good.new (r : Int) : (Dsk.new r).Good 0 := ⟨.new r, .new r, Nat.le_refl _⟩
theorem Dsk.Good.create (h : s.Good m) (n : Nm) : (s.create n).1.Good (m + 1) := ⟨h.ok.create _, h.dir.create h.ok _, Nat.le_trans (s.load_create _) (Nat.succ_le_succ h.load)⟩
theorem Dsk.Good.append (h : s.Good m) (n : Nm) (x : List UInt8) : (s.append n x).1.Good (m + 1) := ⟨h.ok.append _ _, h.dir.append _ _, Nat.le_trans (s.load_append _ _) (Nat.succ_le_succ h.load)⟩
theorem Dsk.Good.sync (h : s.Good m) (n : Nm) : (s.sync n).1.Good (m + 1) := ⟨h.ok.sync _, h.dir.sync _, Nat.le_trans (s.load_sync _) (Nat.succ_le_succ h.load)⟩
theorem Dsk.Good.rename (h : s.Good m) (a b : Nm) : (s.rename a b).1.Good (m + 1) := ⟨h.ok.rename _ _, h.dir.rename _ _, Nat.le_trans (s.load_rename _ _) (Nat.succ_le_succ h.load)⟩
theorem Dsk.Good.delete (h : s.Good m) (n : Nm) : (s.delete n).1.Good (m + 1) := ⟨h.ok.delete _, h.dir.delete _, Nat.le_trans (s.load_delete _) (Nat.succ_le_succ h.load)⟩
theorem Dsk.Good.dirsync (h : s.Good m) : s.dirsync.1.Good (m + 1) := ⟨h.ok.dirsync, h.dir.dirsync, Nat.le_trans (Dsk.load_dirsync h.dir) (Nat.succ_le_succ h.load)⟩
theorem Dsk.Good.crash (h : s.Good m) (c : Cra) : (s.crash c).Good (m + 1) := ⟨h.ok.crash _, h.dir.crash _, Nat.le_trans (s.load_crash _) (Nat.succ_le_succ h.load)⟩
theorem Dsk.Good.start (h : s.Good m) : s.start.Good m := ⟨h.ok.start, h.dir.start, h.load⟩
theorem Dsk.Good.setFuse (h : s.Good m) {n : Int} (hn : n ≤ 9223372036854775807) : (s.setFuse n).Good m := ⟨h.ok.setFuse _ hn, h.dir.setFuse _, h.load⟩
theorem Dsk.Good.act (h : s.Good m) (x : AAct) (hn : x.n ≤ 9223372036854775807) : (s.act x).1.Good (m + 1) := by
  have hl := h.load
  unfold Dsk.act
  split
  · exact ⟨h.ok.create _, h.dir.create h.ok _, Nat.le_trans (s.load_create _) (by omega)⟩
  split
  · exact ⟨h.ok.append _ _, h.dir.append _ _, Nat.le_trans (s.load_append _ _) (by omega)⟩
  split
  · exact ⟨h.ok.sync _, h.dir.sync _, Nat.le_trans (s.load_sync _) (by omega)⟩
  split
  · exact ⟨h.ok.rename _ _, h.dir.rename _ _, Nat.le_trans (s.load_rename _ _) (by omega)⟩
  split
  · exact ⟨h.ok.delete _, h.dir.delete _, Nat.le_trans (s.load_delete _) (by omega)⟩
  split
  · exact ⟨h.ok.dirsync, h.dir.dirsync, Nat.le_trans (Dsk.load_dirsync h.dir) (by omega)⟩
  split
  · exact ⟨h.ok.setFuse _ hn, h.dir.setFuse _, Nat.le_trans h.load (Nat.le_succ _)⟩
  split
  · exact ⟨h.ok.crash _, h.dir.crash _, Nat.le_trans (s.load_crash _) (by omega)⟩
  split
  · exact ⟨h.ok.start, h.dir.start, Nat.le_trans h.load (Nat.le_succ _)⟩
  split
  · exact h.more (Nat.le_succ _)
  · exact h.more (Nat.le_succ _)
theorem Held.act {n : Nm} {f : Nat} {d : List UInt8} (h : Held s n f d) (hn : n ≠ []) (x : AAct) (ha : x.na ≠ n) (hb : x.nb ≠ n) : Held (s.act x).1 n f d := by
  unfold Dsk.act
  split
  · exact h.create hn ha
  split
  · exact h.append ha _
  split
  · exact h.sync ha
  split
  · exact h.rename ha hb
  split
  · exact h.delete hn ha
  split
  · exact h.dirsync
  split
  · exact h.setFuse _
  split
  · exact h.crash _
  split
  · exact h.start
  split
  · exact h
  · exact h
/-- Acts one behind the other: the disk behind them, and what they answer. -/
def Dsk.acts (s : Dsk) : List AAct → Dsk
  | [] => s
  | x :: l => (s.act x).1.acts l
def Dsk.says (s : Dsk) : List AAct → List Nat
  | [] => []
  | x :: l => (s.act x).2.2 :: (s.act x).1.says l
theorem Dsk.acts_append (l1 l2 : List AAct) : ∀ s : Dsk, s.acts (l1 ++ l2) = (s.acts l1).acts l2 := by
  induction l1 with
  | nil => exact fun s => rfl
  | cons x l ih => exact fun s => ih _
theorem Dsk.says_append (l1 l2 : List AAct) : ∀ s : Dsk, s.says (l1 ++ l2) = s.says l1 ++ (s.acts l1).says l2 := by
  induction l1 with
  | nil => exact fun s => rfl
  | cons x l ih => intro s; simp only [List.cons_append, Dsk.says, Dsk.acts]; rw [ih]
theorem Dsk.says_len (l : List AAct) : ∀ s : Dsk, (s.says l).length = l.length := by
  induction l with
  | nil => exact fun s => rfl
  | cons x l ih => intro s; simp only [Dsk.says, List.length_cons, ih]
theorem Dsk.acts_take {l : List AAct} {k : Nat} {x : AAct} (h : l[k]? = some x) (s : Dsk) : s.acts (l.take (k + 1)) = ((s.acts (l.take k)).act x).1 := by
  rw [List.take_add_one, h, Dsk.acts_append]
  rfl
theorem Dsk.says_take {l : List AAct} {k : Nat} {x : AAct} (h : l[k]? = some x) (s : Dsk) : s.says (l.take (k + 1)) = s.says (l.take k) ++ [((s.acts (l.take k)).act x).2.2] := by
  rw [List.take_add_one, h, Dsk.says_append]
  rfl
theorem Dsk.Good.acts : ∀ (l : List AAct) {s : Dsk} {m : Nat}, s.Good m → (∀ x ∈ l, x.n ≤ 9223372036854775807) → (s.acts l).Good (m + l.length)
  | [], s, m, h, _ => h
  | x :: l, s, m, h, hl => by
    have := Dsk.Good.acts l (h.act x (hl x (by simp))) (fun y hy => hl y (List.mem_cons_of_mem _ hy))
    rw [show m + (x :: l).length = m + 1 + l.length from by simp; omega]
    exact this
end
end Go.Proofs.Ytkhicfoikkllmaa
