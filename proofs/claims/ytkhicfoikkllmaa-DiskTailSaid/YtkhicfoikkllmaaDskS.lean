/- The disk as plain data: what each of its operations answers and leaves. No program in sight. -/
import GoSem.ClaimMapViews
namespace Go.Proofs.Ytkhicfoikkllmaa
set_option linter.unusedVariables false
set_option linter.unusedSimpArgs false

abbrev Nm := List UInt8
abbrev NM := List (List UInt8 × Nat)
def insM (x : List UInt8 × Nat) : NM → NM
  | [] => [x]
  | y :: r => if bytesBefore x.1 y.1 then x :: y :: r else y :: insM x r
def delM (k : List UInt8) (m : NM) : NM := m.filter fun p => !(p.1 == k)
def putM (k : List UInt8) (v : Nat) (m : NM) : NM := insM (k, v) (delM k m)
def getM (k : List UInt8) (m : NM) : Option Nat := (m.find? fun p => p.1 == k).map (·.2)
/-- The same names, the files under other numbers. -/
def mvM (g : Nat → Nat) (m : NM) : NM := m.map fun p => (p.1, g p.2)
theorem mvM_ins (g : Nat → Nat) (x : List UInt8 × Nat) : ∀ m, mvM g (insM x m) = insM (x.1, g x.2) (mvM g m)
  | [] => rfl
  | y :: r => by
    unfold mvM insM
    simp only [List.map_cons]
    split
    · rfl
    · rw [List.map_cons]
      have := mvM_ins g x r
      unfold mvM at this
      rw [this]
theorem mvM_del (g : Nat → Nat) (k : List UInt8) (m : NM) : mvM g (delM k m) = delM k (mvM g m) := by
  unfold mvM delM
  rw [List.filter_map]
  rfl
theorem mvM_put (g : Nat → Nat) (k : List UInt8) (v : Nat) (m : NM) : mvM g (putM k v m) = putM k (g v) (mvM g m) := by
  unfold putM
  rw [mvM_ins, mvM_del]
theorem mvM_get (g : Nat → Nat) (k : List UInt8) (m : NM) : getM k (mvM g m) = (getM k m).map g := by
  unfold getM mvM
  rw [List.find?_map]
  simp only [Function.comp_def, Option.map_map]
theorem mvM_len (g : Nat → Nat) (m : NM) : (mvM g m).length = m.length := by simp [mvM]
theorem insM_len (x : List UInt8 × Nat) : ∀ m, (insM x m).length = m.length + 1
  | [] => rfl
  | y :: r => by unfold insM; split <;> simp [insM_len x r]
theorem delM_len (k : List UInt8) (m : NM) : (delM k m).length ≤ m.length := List.length_filter_le _ _
theorem putM_len (k : List UInt8) (v : Nat) (m : NM) : (putM k v m).length ≤ m.length + 1 := by
  have := delM_len k m
  unfold putM
  rw [insM_len]
  omega
theorem insM_mem (x p : List UInt8 × Nat) : ∀ m, p ∈ insM x m ↔ p = x ∨ p ∈ m
  | [] => by simp [insM]
  | y :: r => by
    unfold insM
    split
    · simp
    · simp [insM_mem x p r]; constructor <;> rintro (h | h | h) <;> simp [h]
theorem delM_mem (k : List UInt8) (p : List UInt8 × Nat) (m : NM) : p ∈ delM k m ↔ p ∈ m ∧ p.1 ≠ k := by
  unfold delM
  simp [List.mem_filter]
theorem putM_mem (k : List UInt8) (v : Nat) (p : List UInt8 × Nat) (m : NM) : p ∈ putM k v m ↔ p = (k, v) ∨ (p ∈ m ∧ p.1 ≠ k) := by
  unfold putM
  rw [insM_mem, delM_mem]
theorem getM_mem {k : List UInt8} {m : NM} {v : Nat} (h : getM k m = some v) : (k, v) ∈ m := by
  unfold getM at h
  cases hf : m.find? fun p => p.1 == k with
  | none => rw [hf] at h; cases h
  | some p =>
    rw [hf] at h
    simp at h
    have h1 := List.find?_some hf
    have h2 := List.mem_of_find?_eq_some hf
    simp at h1
    rw [← h, ← h1]
    exact h2
theorem getM_none {k : List UInt8} {m : NM} (h : getM k m = none) : ∀ p ∈ m, p.1 ≠ k := by
  intro p hp e
  unfold getM at h
  simp at h
  exact h p.1 p.2 hp e

structure Fil where
  d : List UInt8
  k : Nat
structure Chg where
  fr : Nm
  to : Nm
  f : Option Nat
structure Dsk where
  room : Nat
  fuse : Nat
  off : Bool
  files : List Fil
  names : NM
  last : NM
  chg : List Chg
structure Cra where
  names : Int
  keep : List Int
  spoil : List (Int × Nat)

def doesC (m : NM) (c : Chg) : NM :=
  let m1 := if c.fr = [] then m else delM c.fr m
  if c.to = [] then m1 else putM c.to (c.f.getD 0) m1
def okB (c : UInt8) : Bool := !((c < 97 || 122 < c) && (c < 48 || 57 < c) && c != 46 && c != 45)
def rightB (n : Nm) : Bool := !n.isEmpty && decide (n.length ≤ 24) && n.all okB

namespace Dsk
def new (room : Int) : Dsk := ⟨(min (max room 0) 1048576).toNat, 0, false, [], [], [], []⟩
def burn (s : Dsk) : Dsk := if 0 < s.fuse then { s with fuse := s.fuse - 1, off := s.fuse - 1 == 0 } else s
def fileE (s : Dsk) (n : Nm) : Nat × Option Nat := if s.off then (7, none) else match getM n s.names with
  | none => (4, none)
  | some f => (0, some f)
def changed (s : Dsk) (c : Chg) : Dsk × Nat := if s.burn.off then (s.burn, 7) else ({ s.burn with names := doesC s.burn.names c, chg := s.burn.chg ++ [c] }, 0)
def dlen (s : Dsk) (i : Nat) : Nat := match s.files[i]? with
  | some f => f.d.length
  | none => 0
def used (s : Dsk) : Nat := (s.names.map fun p => s.dlen p.2).sum
def create (s : Dsk) (n : Nm) : Dsk × Nat := if s.off then (s, 7) else match getM n s.names with
  | some _ => (s, 5)
  | none => if rightB n then changed { s with files := s.files ++ [⟨[], 0⟩] } ⟨[], n, some s.files.length⟩ else (s, 1)
def setF (s : Dsk) (i : Nat) (g : Fil → Fil) : Dsk := { s with files := match s.files[i]? with
  | some f => s.files.set i (g f)
  | none => s.files }
def append (s : Dsk) (n : Nm) (x : List UInt8) : Dsk × Nat := if s.off then (s, 7) else match getM n s.names with
  | none => (s, 4)
  | some i => if s.room < s.used + x.length then (s, 6) else if s.burn.off then (s.burn, 7) else (s.burn.setF i fun f => ⟨f.d ++ x, f.k⟩, 0)
def sync (s : Dsk) (n : Nm) : Dsk × Nat := if s.off then (s, 7) else match getM n s.names with
  | none => (s, 4)
  | some i => if s.burn.off then (s.burn, 7) else (s.burn.setF i fun f => ⟨f.d, f.d.length⟩, 0)
def rename (s : Dsk) (a b : Nm) : Dsk × Nat := if s.off then (s, 7) else if rightB b then match getM a s.names with
  | none => (s, 4)
  | some i => if a = b then (s.burn, if s.burn.off then 7 else 0) else changed s ⟨a, b, some i⟩
  else (s, 1)
def delete (s : Dsk) (n : Nm) : Dsk × Nat := if s.off then (s, 7) else match getM n s.names with
  | none => (s, 4)
  | some _ => changed s ⟨n, [], none⟩
def dirsync (s : Dsk) : Dsk × Nat := if s.off then (s, 7) else if s.burn.off then (s.burn, 7) else ({ s.burn with last := s.burn.names, chg := [] }, 0)
def read (s : Dsk) (n : Nm) : List UInt8 × Nat := if s.off then ([], 7) else match getM n s.names with
  | none => ([], 4)
  | some i => (match s.files[i]? with | some f => f.d | none => [], 0)
def setFuse (s : Dsk) (n : Int) : Dsk := { s with fuse := (max n 0).toNat }
def start (s : Dsk) : Dsk := { s with off := false }
end Dsk

/-- What a crash leaves of a file, by its k-th choices. -/
def keepN (c : Cra) (k : Nat) (t : Nat) : Nat := match c.keep[k]? with
  | some x => (min (max x 0) t).toNat
  | none => 0
def xorAt (l : List UInt8) (i : Nat) (m : UInt8) : List UInt8 := match l[i]? with
  | some x => l.set i (x ^^^ m)
  | none => l
def spoilT (l : List UInt8) (at_ : Int) (mask : Nat) : List UInt8 :=
  let a := (at_ % (l.length : Int)).toNat
  (List.range (min 4 (l.length - a))).foldl (fun l i => xorAt l (a + i) (UInt8.ofNat (mask / 2 ^ (8 * i)))) l
def tailC (c : Cra) (k : Nat) (t : List UInt8) : List UInt8 :=
  let l := t.take (keepN c k t.length)
  if l.isEmpty then l else match c.spoil[k]? with
    | some (a, m) => spoilT l a m
    | none => l
def crashF (c : Cra) (k : Nat) (f : Fil) : Fil := ⟨f.d.take f.k ++ tailC c k (f.d.drop f.k), (f.d.take f.k ++ tailC c k (f.d.drop f.k)).length⟩
def crashGo (c : Cra) : NM → List Fil → Nat → List Fil
  | [], fs, _ => fs
  | p :: r, fs, k => match fs[p.2]? with
    | some f => if f.k < f.d.length then crashGo c r (fs.set p.2 (crashF c k f)) (k + 1) else crashGo c r fs k
    | none => crashGo c r fs k
def Dsk.crash (s : Dsk) (c : Cra) : Dsk :=
  let l := (s.chg.take (min (max c.names 0) s.chg.length).toNat).foldl doesC s.last
  { s with off := true, last := l, names := l, chg := [], files := crashGo c l s.files 0 }
end Go.Proofs.Ytkhicfoikkllmaa
