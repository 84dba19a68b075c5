/- What a call leaves as it was: all blocks but some. The disk as plain data: what each of its operations answers and leaves. No program in sight. Maps from texts to pointers: as lists in the order of their keys. What holds of every disk that its operations leave: kept by each of them. No program in sight. A disk in memory, as the plain data says. Contracts: burns, file, does. Contracts: changed. Contracts: changed. Contracts: right. Contracts: Create, Delete. -/
import Derived.Test.YtdbpfemkjfogoaaGreatDoorM00
import GoSem.ClaimMapViews
import Derived.Test.YtdbpfemkjfogoaaGreatDoorRows
import Derived.WalkKit
import Derived.Maps.OwnSet
import Derived.Maps.RangeWalk
import Derived.Maps.Ext
import Derived.Lib.Hide
import Derived.LoopTactic
import Derived.Lib.ConvBytes
namespace Go.Proofs.YtdbpfemkjfogoaaGreatDoor
open Go.RowKit
set_option linter.unusedVariables false
set_option linter.unusedSimpArgs false
/-- All blocks but some are az they were. -/
structure KeptBut (w w' : World) (S : Nat → Prop) : Prop where
  os : w'.os = w.os
  tape : w'.tape = w.tape
  output : w'.output = w.output
  size : w.heap.size ≤ w'.heap.size
  block : ∀ k, k < w.heap.size → ¬ S k → w'.heap[k]? = w.heap[k]?
theorem KeptBut.refl (w : World) (S : Nat → Prop) : KeptBut w w S := ⟨rfl, rfl, rfl, Nat.le_refl _, fun _ _ _ => rfl⟩
theorem KeptBut.drew {w w' : World} {S : Nat → Prop} (h : KeptBut w w' S) : KeptBut w w'.drew S := ⟨h.os, h.tape, h.output, h.size, h.block⟩
theorem KeptBut.below {w w' : World} {S : Nat → Prop} (h : KeptBut w w' S) {B : Nat} (hS : ∀ k, S k → B ≤ k) (hB : B ≤ w.heap.size) : Below B w w' :=
  ⟨h.os, h.tape, h.output, h.size, fun k hk => h.block k (by omega) (fun hs => by have := hS k hs; omega)⟩
theorem KeptBut.then_below {w w' w'' : World} {S : Nat → Prop} (h : KeptBut w w' S) (hb : Below w'.heap.size w' w'') : KeptBut w w'' S :=
  ⟨hb.os.trans h.os, hb.tape.trans h.tape, hb.output.trans h.output, Nat.le_trans h.size hb.size, fun k hk hs => (hb.block k (by have := h.size; omega)).trans (h.block k hk hs)⟩
theorem KeptBut.then_grown {w w' w'' : World} {S : Nat → Prop} (h : KeptBut w w' S) {row : Option Nat} (hg : w'.grownBy w'' row) (hr : ∀ k, row = some k → S k) : KeptBut w w'' S :=
  ⟨hg.os.trans h.os, hg.tape.trans h.tape, hg.output.trans h.output, Nat.le_trans h.size hg.size, fun k hk hs => (hg.block k (by have := h.size; omega) (fun e => hs (hr k e.symm))).trans (h.block k hk hs)⟩
theorem KeptBut.then_set {w w' : World} {S : Nat → Prop} (h : KeptBut w w' S) {b o : Nat} {v : Value} (hb : S b) : KeptBut w (w'.setCell ⟨b, o, none⟩ v) S :=
  ⟨h.os, h.tape, h.output, by simpa [World.setCell] using h.size, fun k hk hs => (Below.heap_setCell _ _ _ _ (fun e => hs (by rw [e]; exact hb))).trans (h.block k hk hs)⟩
theorem KeptBut.cell {w w' : World} {S : Nat → Prop} (h : KeptBut w w' S) (a : Addr) (ha : a.block < w.heap.size) (hs : ¬ S a.block) : w'.cell? a = w.cell? a := World.cell?_of_block (h.block a.block ha hs)
theorem KeptBut.reads {w w' : World} {S : Nat → Prop} (h : KeptBut w w' S) {m n : Nat} {A : Option Addr} {xs : List Value} (hr : Reads w w.heap.size m A n xs) (hs : ∀ ad, A = some ad → ¬ S ad.block) : Reads w' w'.heap.size m A n xs :=
  ⟨hr.1, fun hn => by
    obtain ⟨ad, e, hb, hc⟩ := hr.2 hn
    refine ⟨ad, e, by have := h.size; omega, fun j u hu => ?_⟩
    rw [h.cell _ (by rw [block_of_add]; exact hb) (by rw [block_of_add]; exact hs ad e)]
    exact hc j u hu⟩
theorem KeptBut.of_below {w w' : World} {S : Nat → Prop} (h : Below w.heap.size w w') : KeptBut w w' S := (KeptBut.refl w S).then_below h
theorem KeptBut.mono {w w' : World} {S S' : Nat → Prop} (h : KeptBut w w' S) (hS : ∀ k, k < w.heap.size → S k → S' k) : KeptBut w w' S' :=
  ⟨h.os, h.tape, h.output, h.size, fun k hk hs => h.block k hk (fun h' => hs (hS k hk h'))⟩
theorem KeptBut.trans {w w' w'' : World} {S S' : Nat → Prop} (h : KeptBut w w' S) (h' : KeptBut w' w'' S') (hS : ∀ k, k < w.heap.size → S' k → S k) : KeptBut w w'' S :=
  ⟨h'.os.trans h.os, h'.tape.trans h.tape, h'.output.trans h.output, Nat.le_trans h.size h'.size, fun k hk hs => (h'.block k (by have := h.size; omega) (fun e => hs (hS k hk e))).trans (h.block k hk hs)⟩
theorem Blk.keptB {w w' : World} {S : Nat → Prop} {g t : Nat} {cs : Array Value} (h : Blk w g t cs) (hk : KeptBut w w' S) (hs : ¬ S g) : Blk w' g t cs := (hk.block g h.lt hs).trans h
theorem own_lt {w : World} {B e size n : Nat} {v : Value} {xs : List Value} (h : w.ownsRow B e size v n xs) : ∀ k, v.ownBlock = some k → B ≤ k ∧ k < w.heap.size := World.ownsRow.lt h
theorem own_block {w w' : World} {B e size n : Nat} {v : Value} {xs : List Value} (h : w.ownsRow B e size v n xs) (hb : ∀ k, v.ownBlock = some k → w'.heap[k]? = w.heap[k]?) : w'.ownsRow B e size v n xs := by
  rcases h with ⟨h1, ⟨h2, h3⟩ | ⟨g, cap, cur, hv, ha, hh, rest⟩⟩
  · exact ⟨h1, .inl ⟨h2, h3⟩⟩
  · refine ⟨h1, .inr ⟨g, cap, cur, hv, ha, ?_, rest⟩⟩
    rw [hb g (by rw [hv]; rfl)]
    exact hh
theorem own_base {w : World} {B e size n : Nat} {v : Value} {xs : List Value} (h : w.ownsRow B e size v n xs) : w.ownsRow 0 e size v n xs :=
  ⟨h.1, h.2.imp id fun ⟨g, cap, cur, hv, _, rest⟩ => ⟨g, cap, cur, hv, Nat.zero_le _, rest⟩⟩
theorem own_kept {w w' : World} {S : Nat → Prop} {B e size n : Nat} {v : Value} {xs : List Value} (h : w.ownsRow B e size v n xs) (hk : KeptBut w w' S) (hs : ∀ k, v.ownBlock = some k → ¬ S k) : w'.ownsRow B e size v n xs :=
  own_block h fun k hk' => hk.block k (own_lt h k hk').2 (hs k hk')
theorem bcell {W w1 : World} (hb : Below W.heap.size W w1) : (∀ b o, b < W.heap.size → w1.cell? ⟨b, o, none⟩ = W.cell? ⟨b, o, none⟩) ∧ (∀ b o, b < W.heap.size → w1.frozen? ⟨b, o, none⟩ = W.frozen? ⟨b, o, none⟩) :=
  ⟨fun b o h => hb.cell (p := ⟨b, o, none⟩) h, fun b o h => hb.frozen (p := ⟨b, o, none⟩) h⟩
def bs (l : List UInt8) : ByteArray := ⟨l.toArray⟩
theorem bs_of (s : ByteArray) : bs s.data.toList = s := by unfold bs; cases s; simp
theorem bs_size (l : List UInt8) : (bs l).size = l.length := by simp [bs, ByteArray.size]
theorem bs_data (l : List UInt8) : (bs l).data.toList = l := by simp [bs]
theorem bs_toList (l : List UInt8) : (bs l).toList = l := by rw [ByteArray.toList_eq, bs_data]
theorem bs_append (a b : List UInt8) : bs a ++ bs b = bs (a ++ b) := by
  unfold bs
  apply ByteArray.ext
  simp
end Go.Proofs.YtdbpfemkjfogoaaGreatDoor
namespace Go.Proofs.YtdbpfemkjfogoaaGreatDoor
set_option linter.unusedVariables false
set_option linter.unusedSimpArgs false
abbrev Nm := List UInt8
abbrev NM := List (List UInt8 × Nat)
def insM (x : List UInt8 × Nat) : NM → NM
  | [] => [x]
  | y :: r => if bytesBefore x.1 y.1 then x :: y :: r else y :: insM x r
def delM (k : List UInt8) (m : NM) : NM := m.filter fun p => !(p.1 == k)
def putM (k : List UInt8) (v : Nat) (m : NM) : NM := insM (k, v) (delM k m)
def getM (k : List UInt8) (m : NM) : Option Nat := (m.find? fun p => p.1 == k).map (·.2)
/-- The same names, the files under other numbers. -/
def mvM (g : Nat → Nat) (m : NM) : NM := m.map fun p => (p.1, g p.2)
theorem mvM_ins (g : Nat → Nat) (x : List UInt8 × Nat) : ∀ m, mvM g (insM x m) = insM (x.1, g x.2) (mvM g m)
  | [] => rfl
  | y :: r => by
    unfold mvM insM
    simp only [List.map_cons]
    split
    · rfl
    · rw [List.map_cons]
      have := mvM_ins g x r
      unfold mvM at this
      rw [this]
theorem mvM_del (g : Nat → Nat) (k : List UInt8) (m : NM) : mvM g (delM k m) = delM k (mvM g m) := by
  unfold mvM delM
  rw [List.filter_map]
  rfl
theorem mvM_put (g : Nat → Nat) (k : List UInt8) (v : Nat) (m : NM) : mvM g (putM k v m) = putM k (g v) (mvM g m) := by
  unfold putM
  rw [mvM_ins, mvM_del]
theorem mvM_get (g : Nat → Nat) (k : List UInt8) (m : NM) : getM k (mvM g m) = (getM k m).map g := by
  unfold getM mvM
  rw [List.find?_map]
  simp only [Function.comp_def, Option.map_map]
theorem mvM_len (g : Nat → Nat) (m : NM) : (mvM g m).length = m.length := by simp [mvM]
theorem insM_len (x : List UInt8 × Nat) : ∀ m, (insM x m).length = m.length + 1
  | [] => rfl
  | y :: r => by unfold insM; split <;> simp [insM_len x r]
theorem delM_len (k : List UInt8) (m : NM) : (delM k m).length ≤ m.length := List.length_filter_le _ _
theorem putM_len (k : List UInt8) (v : Nat) (m : NM) : (putM k v m).length ≤ m.length + 1 := by
  have := delM_len k m
  unfold putM
  rw [insM_len]
  omega
theorem insM_mem (x p : List UInt8 × Nat) : ∀ m, p ∈ insM x m ↔ p = x ∨ p ∈ m
  | [] => by simp [insM]
  | y :: r => by
    unfold insM
    split
    · simp
    · simp [insM_mem x p r]; constructor <;> rintro (h | h | h) <;> simp [h]
theorem delM_mem (k : List UInt8) (p : List UInt8 × Nat) (m : NM) : p ∈ delM k m ↔ p ∈ m ∧ p.1 ≠ k := by
  unfold delM
  simp [List.mem_filter]
theorem putM_mem (k : List UInt8) (v : Nat) (p : List UInt8 × Nat) (m : NM) : p ∈ putM k v m ↔ p = (k, v) ∨ (p ∈ m ∧ p.1 ≠ k) := by
  unfold putM
  rw [insM_mem, delM_mem]
theorem getM_mem {k : List UInt8} {m : NM} {v : Nat} (h : getM k m = some v) : (k, v) ∈ m := by
  unfold getM at h
  cases hf : m.find? fun p => p.1 == k with
  | none => rw [hf] at h; cases h
  | some p =>
    rw [hf] at h
    simp at h
    have h1 := List.find?_some hf
    have h2 := List.mem_of_find?_eq_some hf
    simp at h1
    rw [← h, ← h1]
    exact h2
theorem getM_none {k : List UInt8} {m : NM} (h : getM k m = none) : ∀ p ∈ m, p.1 ≠ k := by
  intro p hp e
  unfold getM at h
  simp at h
  exact h p.1 p.2 hp e
structure Fil where
  d : List UInt8
  k : Nat
structure Chg where
  fr : Nm
  to : Nm
  f : Option Nat
structure Dsk where
  room : Nat
  fuse : Nat
  off : Bool
  files : List Fil
  names : NM
  last : NM
  chg : List Chg
structure Cra where
  names : Int
  keep : List Int
  spoil : List (Int × Nat)
def doesC (m : NM) (c : Chg) : NM :=
  let m1 := if c.fr = [] then m else delM c.fr m
  if c.to = [] then m1 else putM c.to (c.f.getD 0) m1
def okB (c : UInt8) : Bool := !((c < 97 || 122 < c) && (c < 48 || 57 < c) && c != 46 && c != 45)
def rightB (n : Nm) : Bool := !n.isEmpty && decide (n.length ≤ 24) && n.all okB
namespace Dsk
def new (room : Int) : Dsk := ⟨(min (max room 0) 1048576).toNat, 0, false, [], [], [], []⟩
def burn (s : Dsk) : Dsk := if 0 < s.fuse then { s with fuse := s.fuse - 1, off := s.fuse - 1 == 0 } else s
def fileE (s : Dsk) (n : Nm) : Nat × Option Nat := if s.off then (7, none) else match getM n s.names with
  | none => (4, none)
  | some f => (0, some f)
def changed (s : Dsk) (c : Chg) : Dsk × Nat := if s.burn.off then (s.burn, 7) else ({ s.burn with names := doesC s.burn.names c, chg := s.burn.chg ++ [c] }, 0)
def dlen (s : Dsk) (i : Nat) : Nat := match s.files[i]? with
  | some f => f.d.length
  | none => 0
def used (s : Dsk) : Nat := (s.names.map fun p => s.dlen p.2).sum
def create (s : Dsk) (n : Nm) : Dsk × Nat := if s.off then (s, 7) else match getM n s.names with
  | some _ => (s, 5)
  | none => if rightB n then changed { s with files := s.files ++ [⟨[], 0⟩] } ⟨[], n, some s.files.length⟩ else (s, 1)
def setF (s : Dsk) (i : Nat) (g : Fil → Fil) : Dsk := { s with files := match s.files[i]? with
  | some f => s.files.set i (g f)
  | none => s.files }
def append (s : Dsk) (n : Nm) (x : List UInt8) : Dsk × Nat := if s.off then (s, 7) else match getM n s.names with
  | none => (s, 4)
  | some i => if s.room < s.used + x.length then (s, 6) else if s.burn.off then (s.burn, 7) else (s.burn.setF i fun f => ⟨f.d ++ x, f.k⟩, 0)
def sync (s : Dsk) (n : Nm) : Dsk × Nat := if s.off then (s, 7) else match getM n s.names with
  | none => (s, 4)
  | some i => if s.burn.off then (s.burn, 7) else (s.burn.setF i fun f => ⟨f.d, f.d.length⟩, 0)
def rename (s : Dsk) (a b : Nm) : Dsk × Nat := if s.off then (s, 7) else if rightB b then match getM a s.names with
  | none => (s, 4)
  | some i => if a = b then (s.burn, if s.burn.off then 7 else 0) else changed s ⟨a, b, some i⟩
  else (s, 1)
def delete (s : Dsk) (n : Nm) : Dsk × Nat := if s.off then (s, 7) else match getM n s.names with
  | none => (s, 4)
  | some _ => changed s ⟨n, [], none⟩
def dirsync (s : Dsk) : Dsk × Nat := if s.off then (s, 7) else if s.burn.off then (s.burn, 7) else ({ s.burn with last := s.burn.names, chg := [] }, 0)
def read (s : Dsk) (n : Nm) : List UInt8 × Nat := if s.off then ([], 7) else match getM n s.names with
  | none => ([], 4)
  | some i => (match s.files[i]? with | some f => f.d | none => [], 0)
def setFuse (s : Dsk) (n : Int) : Dsk := { s with fuse := (max n 0).toNat }
def start (s : Dsk) : Dsk := { s with off := false }
end Dsk
/-- What a crash leaves of a file, by its k-th choices. -/
def keepN (c : Cra) (k : Nat) (t : Nat) : Nat := match c.keep[k]? with
  | some x => (min (max x 0) t).toNat
  | none => 0
def xorAt (l : List UInt8) (i : Nat) (m : UInt8) : List UInt8 := match l[i]? with
  | some x => l.set i (x ^^^ m)
  | none => l
def spoilT (l : List UInt8) (at_ : Int) (mask : Nat) : List UInt8 :=
  let a := (at_ % (l.length : Int)).toNat
  (List.range (min 4 (l.length - a))).foldl (fun l i => xorAt l (a + i) (UInt8.ofNat (mask / 2 ^ (8 * i)))) l
def tailC (c : Cra) (k : Nat) (t : List UInt8) : List UInt8 :=
  let l := t.take (keepN c k t.length)
  if l.isEmpty then l else match c.spoil[k]? with
    | some (a, m) => spoilT l a m
    | none => l
def crashF (c : Cra) (k : Nat) (f : Fil) : Fil := ⟨f.d.take f.k ++ tailC c k (f.d.drop f.k), (f.d.take f.k ++ tailC c k (f.d.drop f.k)).length⟩
def crashGo (c : Cra) : NM → List Fil → Nat → List Fil
  | [], fs, _ => fs
  | p :: r, fs, k => match fs[p.2]? with
    | some f => if f.k < f.d.length then crashGo c r (fs.set p.2 (crashF c k f)) (k + 1) else crashGo c r fs k
    | none => crashGo c r fs k
def Dsk.crash (s : Dsk) (c : Cra) : Dsk :=
  let l := (s.chg.take (min (max c.names 0) s.chg.length).toNat).foldl doesC s.last
  { s with off := true, last := l, names := l, chg := [], files := crashGo c l s.files 0 }
end Go.Proofs.YtdbpfemkjfogoaaGreatDoor
namespace Go.Proofs.YtdbpfemkjfogoaaGreatDoor
open Go.RowKit
set_option linter.unusedVariables false
set_option linter.unusedSimpArgs false
/-- How a pointer reads: az its block's number. -/
def ptrR (v : Value) : Option (DataW Unit × List MemPlace) := match v with
  | .pointer (some ⟨b, 0, none⟩) => some (.lit (.int .u64 (b : Nat)), [])
  | .pointer none => some (.nil, [])
  | _ => none
def ptrV : Option Nat → Value
  | some b => .pointer (some ⟨b, 0, none⟩)
  | none => .pointer none
def lookV : Option Nat → Value
  | some b => .tuple #[.pointer (some ⟨b, 0, none⟩), .bool true]
  | none => .tuple #[.pointer none, .bool false]
theorem ptrR_some {v : Value} {b : Nat} {ps : List MemPlace} (h : ptrR v = some (.lit (.int .u64 (b : Nat)), ps)) : v = .pointer (some ⟨b, 0, none⟩) := by
  unfold ptrR at h
  split at h
  · rename_i b'
    simp at h
    have : b' = b := by have := h.1; omega
    rw [this]
  · simp at h
  · simp at h
theorem ptrR_nil {v : Value} {ps : List MemPlace} (h : ptrR v = some (.nil, ps)) : v = .pointer none := by
  unfold ptrR at h
  split at h <;> simp at h
  rfl
def nmE (p : List UInt8 × Nat) : Lit × DataW Unit := (.string p.1, .lit (.int .u64 (p.2 : Nat)))
def nmD (m : NM) : DataW Unit := .map (m.map nmE)
theorem nm_insert (x : List UInt8 × Nat) : ∀ m : NM, DataW.insert (nmE x) (m.map nmE) = (insM x m).map nmE
  | [] => rfl
  | y :: r => by
    simp only [List.map_cons, DataW.insert, insM]
    have e : (nmE x).1.before (nmE y).1 = bytesBefore x.1 y.1 := rfl
    rw [e]
    split
    · rfl
    · rw [List.map_cons, nm_insert x r]
theorem nmD_del (k : List UInt8) (m : NM) : (nmD m).del (.string k) = nmD (delM k m) := by
  show DataW.map ((m.map nmE).filter fun p => !p.1.sameKey (.string k)) = DataW.map ((delM k m).map nmE)
  rw [List.filter_map]
  rfl
theorem nmD_put (k : List UInt8) (v : Nat) (m : NM) : (nmD m).put (.string k) (.lit (.int .u64 (v : Nat))) = nmD (putM k v m) := by
  have h := nmD_del k m
  unfold nmD DataW.del at h
  unfold nmD DataW.put putM
  simp only [DataW.map.injEq] at h ⊢
  rw [h]
  exact nm_insert (k, v) _
theorem nmD_at (k : List UInt8) (m : NM) (zd : DataW Unit) : (nmD m).atKey (.string k) zd = match getM k m with | some v => .lit (.int .u64 (v : Nat)) | none => zd := by
  unfold nmD DataW.atKey getM
  induction m with
  | nil => rfl
  | cons y r ih =>
    simp only [List.map_cons, List.find?_cons]
    have e : (nmE y).1.sameKey (.string k) = (y.1 == k) := rfl
    rw [e]
    cases y.1 == k
    · exact ih
    · rfl
theorem nmD_has (k : List UInt8) (m : NM) : Maps.has (nmD m) (.string k) = (getM k m).isSome := by
  unfold nmD getM
  rw [Maps.has_eq]
  induction m with
  | nil => rfl
  | cons y r ih =>
    simp only [List.map_cons, List.any_cons, List.find?_cons]
    have e : (nmE y).1.sameKey (.string k) = (y.1 == k) := rfl
    rw [e]
    cases y.1 == k
    · simpa using ih
    · rfl
theorem nmD_size (m : NM) : Maps.size (nmD m) = m.length := by
  unfold nmD
  rw [Maps.size_eq, List.length_map]
def MapAt (P : Program) (k : TypeId) (w : World) (g : Nat) (m : NM) : Prop := w.ownsMap P k ptrR g m.length (nmD m)
section
variable {P : Program} {k e t : TypeId} {w : World} {g : Nat} {m : NM}
theorem MapAt.of {n : Nat} (h : w.ownsMap P k ptrR g n (nmD m)) : MapAt P k w g m := by
  obtain ⟨es, clock, hb, F, _, hD⟩ := h
  refine ⟨es, clock, hb, F, ?_, hD⟩
  have h1 : Maps.size (nmD m) = es.size := by rw [hD]; simp [Maps.size, length_sorted]
  rw [nmD_size] at h1
  omega
theorem MapAt.lt (h : MapAt P k w g m) : g < w.heap.size := World.ownsMap.lt h
theorem MapAt.new (w : World) : MapAt P k (w.alloc (.map #[] 0)) w.heap.size [] := World.ownsMap_made w P k ptrR
theorem MapAt.block {w' : World} (h : MapAt P k w g m) (hb : w'.heap[g]? = w.heap[g]?) : MapAt P k w' g m := by
  obtain ⟨es, clock, h1, F, hs, hD⟩ := h
  exact ⟨es, clock, hb.trans h1, F, hs, hD⟩
theorem nm_key (hk : P.underlying k = some .string) {s : ByteArray} (hs : s.size ≤ maxLen) : keyOf P k (.string s) = some (.string s.data.toList) := by
  simp [keyOf, hk, mapKey, hs]
theorem MapAt.look (h : MapAt P k w g m) (hk : P.underlying k = some .string) (ht : P.underlying t = some (.map k e)) (hz : (zeroValue e).run P w = .ok (.pointer none) w) {s : ByteArray} (hs : s.size ≤ maxLen) :
    (Instr.lookup t (.map (some g)) (.string s) false).run P w = .ok (ptrV (getM s.data.toList m)) w := by
  obtain ⟨v, ps, hrun, hv⟩ := World.ownsMap.lookup h (Maps.string_keyed hk) ht hz (zd := .nil) (zp := []) rfl (nm_key hk hs)
  rw [nmD_at] at hv
  rw [hrun]
  cases hg : getM s.data.toList m with
  | none => rw [hg] at hv; rw [ptrR_nil hv]; rfl
  | some b => rw [hg] at hv; rw [ptrR_some hv]; rfl
theorem MapAt.look_ok (h : MapAt P k w g m) (hk : P.underlying k = some .string) (ht : P.underlying t = some (.map k e)) (hz : (zeroValue e).run P w = .ok (.pointer none) w) {s : ByteArray} (hs : s.size ≤ maxLen) :
    (Instr.lookup t (.map (some g)) (.string s) true).run P w = .ok (lookV (getM s.data.toList m)) w := by
  obtain ⟨v, ps, hrun, hv⟩ := World.ownsMap.look_ok h (Maps.string_keyed hk) ht hz (zd := .nil) (zp := []) rfl (nm_key hk hs)
  rw [nmD_at] at hv
  rw [nmD_has] at hrun
  rw [hrun]
  cases hg : getM s.data.toList m with
  | none => rw [hg] at hv; rw [ptrR_nil hv]; rfl
  | some b => rw [hg] at hv; rw [ptrR_some hv]; rfl
theorem MapAt.store (h : MapAt P k w g m) (hk : P.underlying k = some .string) (ht : P.underlying t = some (.map k e)) (hn : m.length < maxLen) {s : ByteArray} (hs : s.size ≤ maxLen) (b : Nat) :
    ∃ w', (Instr.mapUpdate t (.map (some g)) (.string s) (.pointer (some ⟨b, 0, none⟩))).run P w = .ok () w' ∧ MapAt P k w' g (putM s.data.toList b m) ∧ w.mapTurned w' g := by
  obtain ⟨w', hrun, h1, h2⟩ := World.ownsMap.store h (Maps.string_keyed hk) ht hn (nm_key hk hs) (d := .lit (.int .u64 (b : Nat))) (ps := []) (val := .pointer (some ⟨b, 0, none⟩)) rfl
  rw [nmD_put] at h1
  exact ⟨w', hrun, MapAt.of h1, h2⟩
theorem MapAt.drop (h : MapAt P k w g m) (hk : P.underlying k = some .string) (ht : P.underlying t = some (.map k e)) {s : ByteArray} (hs : s.size ≤ maxLen) (ty : TypeId) :
    ∃ w', (Builtin.delete_ #[t, k] ty #[.map (some g), .string s]).run P w = .ok (.tuple #[]) w' ∧ MapAt P k w' g (delM s.data.toList m) ∧ w.mapTurned w' g := by
  obtain ⟨w', hrun, h1, h2⟩ := World.ownsMap.drop h (Maps.string_keyed hk) ht (nm_key hk hs) ty
  rw [nmD_del] at h1
  exact ⟨w', hrun, MapAt.of h1, h2⟩
end
section
variable {P : Program} (w : World) {ops : Array Oper} {rest : List Oper} {o : Oper} {a : Act} {Q : Exit → Act → World → Prop}
theorem wpList_nm_store (hgd : o.guard = none) (mo x v : Operand) (t : TypeId) (hop : o.op = Op.mapUpdate t mo x v) (k e : TypeId) (hk : P.underlying k = some .string) (ht : P.underlying t = some (.map k e))
    (g : Nat) (m : NM) (hm : a.eval mo = .map (some g)) (h : MapAt P k w g m) (hn : m.length < maxLen) (s : ByteArray) (b : Nat) (hx : a.eval x = .string s) (hv : a.eval v = .pointer (some ⟨b, 0, none⟩)) (hs : s.size ≤ maxLen)
    (hK : ∀ w', MapAt P k w' g (putM s.data.toList b m) → w.mapTurned w' g → wpList P ops Q rest (a.put o.dst undef) w') : wpList P ops Q (o :: rest) a w := by
  refine wpList_plain hgd fun K' hK' => ?_
  obtain ⟨w', hrun, r1, r2⟩ := h.store hk ht hn hs b
  unfold Oper.wp
  simp [execOp, hop, hm, hx, hv, hrun, Result.andThen]
  exact hK' _ _ (hK w' r1 r2)
theorem wpList_nm_delete (hgd : o.guard = none) (mo x : Operand) (t k : TypeId) (hop : o.op = Op.call { callee := Callee.builtin Builtin.delete, args := #[mo, x], argTypes := #[t, k] }) (e : TypeId) (hk : P.underlying k = some .string) (ht : P.underlying t = some (.map k e))
    (g : Nat) (m : NM) (hm : a.eval mo = .map (some g)) (h : MapAt P k w g m) (s : ByteArray) (hx : a.eval x = .string s) (hs : s.size ≤ maxLen)
    (hK : ∀ w', MapAt P k w' g (delM s.data.toList m) → w.mapTurned w' g → wpList P ops Q rest (a.put o.dst (.tuple #[])) w') : wpList P ops Q (o :: rest) a w := by
  refine wpList_plain hgd fun K' hK' => ?_
  obtain ⟨w', hrun, r1, r2⟩ := h.drop hk ht hs o.type
  unfold Oper.wp
  simp [execOp, hop, resolve, invoke, builtin, hm, hx, hrun, Result.andThen]
  exact hK' _ _ (hK w' r1 r2)
end
end Go.Proofs.YtdbpfemkjfogoaaGreatDoor
namespace Go.Proofs.YtdbpfemkjfogoaaGreatDoor
set_option linter.unusedVariables false
set_option linter.unusedSimpArgs false
/-- What holds of every disk that its operations leave. -/
structure Dsk.Ok (s : Dsk) : Prop where
  room : s.room ≤ 1048576
  fuse : s.fuse ≤ 9223372036854775807
  names : ∀ p ∈ s.names, p.1.length ≤ 24 ∧ p.2 < s.files.length
  last : ∀ p ∈ s.last, p.1.length ≤ 24 ∧ p.2 < s.files.length
  chg : ∀ c ∈ s.chg, c.fr.length ≤ 24 ∧ c.to.length ≤ 24 ∧ (∀ i, c.f = some i → i < s.files.length) ∧ (c.to ≠ [] → c.f ≠ none)
  file : ∀ f ∈ s.files, f.k ≤ f.d.length ∧ f.d.length ≤ 1048576
theorem Dsk.burn_pos {s : Dsk} (h : 0 < s.fuse) : s.burn = { s with fuse := s.fuse - 1, off := s.fuse - 1 == 0 } := by unfold Dsk.burn; rw [if_pos h]
theorem Dsk.burn_zero {s : Dsk} (h : ¬ 0 < s.fuse) : s.burn = s := by unfold Dsk.burn; rw [if_neg h]
theorem Dsk.burn_same {s : Dsk} : s.burn.files = s.files ∧ s.burn.names = s.names ∧ s.burn.last = s.last ∧ s.burn.chg = s.chg ∧ s.burn.room = s.room ∧ s.burn.fuse ≤ s.fuse := by
  by_cases h : 0 < s.fuse
  · rw [Dsk.burn_pos h]; exact ⟨rfl, rfl, rfl, rfl, rfl, Nat.sub_le _ _⟩
  · rw [Dsk.burn_zero h]; exact ⟨rfl, rfl, rfl, rfl, rfl, Nat.le_refl _⟩
section
variable {s : Dsk}
theorem Dsk.Ok.burn (ok : s.Ok) : s.burn.Ok := by
  obtain ⟨h1, h2, h3, h4, h5, h6⟩ := @Dsk.burn_same s
  exact ⟨by rw [h5]; exact ok.room, by have := ok.fuse; omega, by rw [h1, h2]; exact ok.names, by rw [h1, h3]; exact ok.last, by rw [h1, h4]; exact ok.chg, by rw [h1]; exact ok.file⟩
theorem Dsk.Ok.newFile (ok : s.Ok) : ({ s with files := s.files ++ [⟨[], 0⟩] } : Dsk).Ok := by
  refine ⟨ok.room, ok.fuse, fun p hp => ?_, fun p hp => ?_, fun c hc => ?_, fun f hf => ?_⟩
  · have := ok.names p hp; simp; omega
  · have := ok.last p hp; simp; omega
  · obtain ⟨a, b, e, g⟩ := ok.chg c hc
    exact ⟨a, b, fun i hi => by have := e i hi; simp; omega, g⟩
  · simp at hf
    rcases hf with hf | rfl
    · exact ok.file f hf
    · exact ⟨Nat.le_refl _, by simp⟩
theorem doesC_mem {m : NM} {c : Chg} {p : List UInt8 × Nat} (h : p ∈ doesC m c) : p ∈ m ∨ (c.to ≠ [] ∧ p = (c.to, c.f.getD 0)) := by
  unfold doesC at h
  simp only [] at h
  by_cases h2 : c.to = []
  · rw [if_pos h2] at h
    by_cases h1 : c.fr = []
    · rw [if_pos h1] at h; exact .inl h
    · rw [if_neg h1] at h; exact .inl ((delM_mem _ _ _).1 h).1
  · rw [if_neg h2] at h
    rcases (putM_mem _ _ _ _).1 h with h | ⟨h, _⟩
    · exact .inr ⟨h2, h⟩
    · by_cases h1 : c.fr = []
      · rw [if_pos h1] at h; exact .inl h
      · rw [if_neg h1] at h; exact .inl ((delM_mem _ _ _).1 h).1
theorem doesC_ok {m : NM} {c : Chg} {n : Nat} (hm : ∀ p ∈ m, p.1.length ≤ 24 ∧ p.2 < n) (h2 : c.to.length ≤ 24) (h3 : ∀ i, c.f = some i → i < n) (h4 : c.to ≠ [] → c.f ≠ none) : ∀ p ∈ doesC m c, p.1.length ≤ 24 ∧ p.2 < n := by
  intro p hp
  rcases doesC_mem hp with h | ⟨h, rfl⟩
  · exact hm p h
  · obtain ⟨i, hi⟩ := Option.ne_none_iff_exists'.1 (h4 h)
    refine ⟨h2, ?_⟩
    simp only [hi, Option.getD_some]
    exact h3 i hi
theorem Dsk.Ok.changed (ok : s.Ok) {c : Chg} (h1 : c.fr.length ≤ 24) (h2 : c.to.length ≤ 24) (h3 : ∀ i, c.f = some i → i < s.files.length) (h4 : c.to ≠ [] → c.f ≠ none) : (s.changed c).1.Ok := by
  obtain ⟨e1, e2, e3, e4, e5, e6⟩ := @Dsk.burn_same s
  have hb := ok.burn
  unfold Dsk.changed
  split
  · exact hb
  · refine ⟨hb.room, hb.fuse, doesC_ok hb.names h2 (by rw [e1]; exact h3) h4, hb.last, fun x hx => ?_, hb.file⟩
    simp only [List.mem_append, List.mem_singleton] at hx
    rcases hx with hx | rfl
    · exact hb.chg x hx
    · exact ⟨h1, h2, by rw [e1]; exact h3, h4⟩
theorem rightB_len {n : List UInt8} (h : rightB n = true) : n.length ≤ 24 := by
  unfold rightB at h
  simp at h
  exact h.1.2
theorem Dsk.Ok.create (ok : s.Ok) (n : Nm) : (s.create n).1.Ok := by
  unfold Dsk.create
  split
  · exact ok
  · split
    · exact ok
    · split
      · rename_i h
        exact ok.newFile.changed (by simp) (rightB_len h) (fun i hi => by simp at hi; subst hi; simp) (by simp)
      · exact ok
theorem Dsk.Ok.delete (ok : s.Ok) (n : Nm) : (s.delete n).1.Ok := by
  unfold Dsk.delete
  split
  · exact ok
  · split
    · exact ok
    · rename_i h
      exact ok.changed (ok.names _ (getM_mem h)).1 (by simp) (by simp) (by simp)
theorem Dsk.Ok.rename (ok : s.Ok) (a b : Nm) : (s.rename a b).1.Ok := by
  unfold Dsk.rename
  split
  · exact ok
  · split
    · rename_i hb
      split
      · exact ok
      · rename_i i h
        split
        · exact ok.burn
        · exact ok.changed (ok.names _ (getM_mem h)).1 (rightB_len hb) (fun j hj => by injection hj with hj; subst hj; exact (ok.names _ (getM_mem h)).2) (by simp)
    · exact ok
theorem Dsk.Ok.setF (ok : s.Ok) (i : Nat) (g : Fil → Fil) (hg : ∀ f, s.files[i]? = some f → (g f).k ≤ (g f).d.length ∧ (g f).d.length ≤ 1048576) : (s.setF i g).Ok := by
  unfold Dsk.setF
  cases hi : s.files[i]? with
  | none => exact ok
  | some f =>
    refine ⟨ok.room, ok.fuse, by simpa using ok.names, by simpa using ok.last, by simpa using ok.chg, fun x hx => ?_⟩
    rcases List.mem_or_eq_of_mem_set hx with h | rfl
    · exact ok.file x h
    · exact hg f hi
theorem Dsk.Ok.sync (ok : s.Ok) (n : Nm) : (s.sync n).1.Ok := by
  unfold Dsk.sync
  split
  · exact ok
  · split
    · exact ok
    · split
      · exact ok.burn
      · exact ok.burn.setF _ _ fun f hf => ⟨Nat.le_refl _, (ok.burn.file f (List.mem_of_getElem? hf)).2⟩
theorem Dsk.dlen_used {n : List UInt8} {i : Nat} (hg : getM n s.names = some i) : s.dlen i ≤ s.used := by
  unfold Dsk.used
  have h := getM_mem hg
  have : ∀ (m : NM) (p : List UInt8 × Nat), p ∈ m → s.dlen p.2 ≤ (m.map fun q => s.dlen q.2).sum := by
    intro m
    induction m with
    | nil => intro p hp; cases hp
    | cons q m ih =>
      intro p hp
      rw [List.map_cons, List.sum_cons]
      rcases List.mem_cons.1 hp with rfl | hp
      · omega
      · have := ih p hp; omega
  exact this _ _ h
theorem Dsk.Ok.append (ok : s.Ok) (n : Nm) (x : List UInt8) : (s.append n x).1.Ok := by
  unfold Dsk.append
  split
  · exact ok
  · split
    · exact ok
    · rename_i i h
      split
      · exact ok
      · rename_i hr
        split
        · exact ok.burn
        · refine ok.burn.setF _ _ fun f hf => ?_
          have h1 := ok.burn.file f (List.mem_of_getElem? hf)
          have h2 := Dsk.dlen_used h
          rw [Dsk.burn_same.1] at hf
          have h3 : s.dlen i = f.d.length := by unfold Dsk.dlen; rw [hf]
          have := ok.room
          simp only [List.length_append]
          omega
theorem Dsk.Ok.dirsync (ok : s.Ok) : s.dirsync.1.Ok := by
  unfold Dsk.dirsync
  split
  · exact ok
  · split
    · exact ok.burn
    · exact ⟨ok.burn.room, ok.burn.fuse, ok.burn.names, ok.burn.names, (fun c hc => (by cases hc)), ok.burn.file⟩
theorem Dsk.Ok.start (ok : s.Ok) : s.start.Ok := ⟨ok.room, ok.fuse, ok.names, ok.last, ok.chg, ok.file⟩
theorem Dsk.Ok.setFuse (ok : s.Ok) (n : Int) (hn : n ≤ 9223372036854775807) : (s.setFuse n).Ok := ⟨ok.room, by show (max n 0).toNat ≤ _; omega, ok.names, ok.last, ok.chg, ok.file⟩
theorem Dsk.Ok.new (r : Int) : (Dsk.new r).Ok := ⟨by unfold Dsk.new; simp only []; omega, by simp [Dsk.new], by simp [Dsk.new], by simp [Dsk.new], by simp [Dsk.new], by simp [Dsk.new]⟩
theorem xorAt_len (l : List UInt8) (i : Nat) (m : UInt8) : (xorAt l i m).length = l.length := by
  unfold xorAt
  split <;> simp
theorem xorAt_some {l : List UInt8} {i : Nat} (m : UInt8) (h : i < l.length) : xorAt l i m = l.set i (l[i] ^^^ m) := by
  unfold xorAt
  rw [List.getElem?_eq_getElem h]
theorem keepN_le (c : Cra) (k t : Nat) : keepN c k t ≤ t := by
  unfold keepN
  split
  · omega
  · omega
theorem spoil_len (a m : Nat) : ∀ (n : Nat) (l : List UInt8), ((List.range n).foldl (fun l i => xorAt l (a + i) (UInt8.ofNat (m / 2 ^ (8 * i)))) l).length = l.length
  | 0, l => rfl
  | n + 1, l => by
    rw [List.range_succ, List.foldl_append]
    simp only [List.foldl_cons, List.foldl_nil]
    rw [xorAt_len, spoil_len a m n l]
theorem tailC_len (c : Cra) (k : Nat) (t : List UInt8) : (tailC c k t).length = keepN c k t.length := by
  have h := keepN_le c k t.length
  unfold tailC
  simp only []
  split
  · rw [List.length_take]; omega
  · split
    · unfold spoilT
      rw [spoil_len, List.length_take]
      omega
    · rw [List.length_take]; omega
theorem crashF_ok {c : Cra} {k : Nat} {f : Fil} (h : f.k ≤ f.d.length ∧ f.d.length ≤ 1048576) : (crashF c k f).k ≤ (crashF c k f).d.length ∧ (crashF c k f).d.length ≤ 1048576 := by
  unfold crashF
  have := keepN_le c k (f.d.drop f.k).length
  refine ⟨Nat.le_refl _, ?_⟩
  simp only [List.length_append, tailC_len, List.length_take, List.length_drop] at this ⊢
  omega
theorem crashGo_ok (c : Cra) : ∀ (m : NM) (fs : List Fil) (k : Nat), (∀ f ∈ fs, f.k ≤ f.d.length ∧ f.d.length ≤ 1048576) → (crashGo c m fs k).length = fs.length ∧ ∀ f ∈ crashGo c m fs k, f.k ≤ f.d.length ∧ f.d.length ≤ 1048576
  | [], fs, k, h => ⟨rfl, h⟩
  | p :: r, fs, k, h => by
    unfold crashGo
    cases hp : fs[p.2]? with
    | none => exact crashGo_ok c r fs k h
    | some f =>
      simp only []
      split
      · have := crashGo_ok c r (fs.set p.2 (crashF c k f)) (k + 1) (fun x hx => by
          rcases List.mem_or_eq_of_mem_set hx with h1 | rfl
          · exact h x h1
          · exact crashF_ok (h f (List.mem_of_getElem? hp)))
        rw [List.length_set] at this
        exact this
      · exact crashGo_ok c r fs k h
theorem doesAll_ok {n : Nat} : ∀ (cs : List Chg) (m : NM), (∀ p ∈ m, p.1.length ≤ 24 ∧ p.2 < n) → (∀ c ∈ cs, c.fr.length ≤ 24 ∧ c.to.length ≤ 24 ∧ (∀ i, c.f = some i → i < n) ∧ (c.to ≠ [] → c.f ≠ none)) → ∀ p ∈ cs.foldl doesC m, p.1.length ≤ 24 ∧ p.2 < n
  | [], m, hm, _ => hm
  | c :: cs, m, hm, hc => by
    obtain ⟨a, b, e, g⟩ := hc c (by simp)
    exact doesAll_ok cs (doesC m c) (doesC_ok hm b e g) (fun x hx => hc x (List.mem_cons_of_mem _ hx))
theorem Dsk.Ok.crash (ok : s.Ok) (c : Cra) : (s.crash c).Ok := by
  have hd := doesAll_ok (s.chg.take (min (max c.names 0) s.chg.length).toNat) s.last ok.last (fun x hx => ok.chg x (List.mem_of_mem_take hx))
  have hf := crashGo_ok c ((s.chg.take (min (max c.names 0) s.chg.length).toNat).foldl doesC s.last) s.files 0 ok.file
  unfold Dsk.crash
  exact ⟨ok.room, ok.fuse, by simp only []; rw [hf.1]; exact hd, by simp only []; rw [hf.1]; exact hd, (fun x hx => (by cases hx)), hf.2⟩
/-- How many entries and changes there are: each operation makes at most one more. -/
def Dsk.load (s : Dsk) : Nat := s.last.length + s.chg.length
theorem doesC_len (m : NM) (c : Chg) : (doesC m c).length ≤ m.length + 1 := by
  have h1 := delM_len c.fr m
  unfold doesC
  simp only []
  split
  · split <;> omega
  · split
    · exact putM_len _ _ _
    · have := putM_len c.to (c.f.getD 0) (delM c.fr m); omega
theorem doesAll_len : ∀ (cs : List Chg) (m : NM), (cs.foldl doesC m).length ≤ m.length + cs.length
  | [], m => by simp
  | c :: cs, m => by
    have := doesAll_len cs (doesC m c)
    have := doesC_len m c
    simp only [List.foldl_cons, List.length_cons]
    omega
end
end Go.Proofs.YtdbpfemkjfogoaaGreatDoor
namespace Go.Proofs.YtdbpfemkjfogoaaGreatDoor
open Go.RowKit
set_option linter.unusedVariables false
set_option linter.unusedSimpArgs false
/-- Where a disk's parts lie. -/
structure Lay where
  gN : Nat
  gL : Nat
  vC : Value
  blk : Nat → Nat
  row : Nat → Value
  dead : Nat → Prop
def chgV (g : Nat → Nat) (l : List Chg) : List Value := l.flatMap fun c => [.string (bs c.fr), .string (bs c.to), ptrV (c.f.map g)]
structure DskAt (w : World) (F : Nat → Prop) (d : Nat) (L : Lay) (s : Dsk) : Prop where
  box : Blk w d 89 #[.int .i64 s.room, .map (some L.gN), .map (some L.gL), L.vC, .bool s.off, .int .i64 s.fuse]
  names : MapAt Tryz.prog 9 w L.gN (mvM L.blk s.names)
  last : MapAt Tryz.prog 9 w L.gL (mvM L.blk s.last)
  chg : w.ownsRow 0 92 3 L.vC s.chg.length (chgV L.blk s.chg)
  file : ∀ i f, s.files[i]? = some f → ¬ L.dead i → Blk w (L.blk i) 99 #[L.row i, .int .i64 f.k] ∧ OwnB w 0 (L.row i) f.d
  inF : F d ∧ F L.gN ∧ F L.gL ∧ (∀ k, L.vC.ownBlock = some k → F k) ∧ ∀ i, i < s.files.length → ¬ L.dead i → F (L.blk i) ∧ ∀ k, (L.row i).ownBlock = some k → F k
  ne : L.gN ≠ L.gL
  inj : ∀ i j, i < s.files.length → j < s.files.length → ¬ L.dead i → ¬ L.dead j → L.blk i = L.blk j → i = j
  live : (∀ p ∈ s.names, ¬ L.dead p.2) ∧ (∀ p ∈ s.last, ¬ L.dead p.2) ∧ (∀ c ∈ s.chg, ∀ i, c.f = some i → ¬ L.dead i) ∧ ∀ i, L.dead i → i < s.files.length
  rows : ∀ i j k, i < s.files.length → j < s.files.length → ¬ L.dead i → ¬ L.dead j → (L.row i).ownBlock = some k → (L.row j).ownBlock = some k → i = j
section
variable {w w' : World} {F : Nat → Prop} {d : Nat} {L : Lay} {s : Dsk}
theorem DskAt.kept {S : Nat → Prop} (h : DskAt w F d L s) (hk : KeptBut w w' S) (hS : ∀ k, F k → ¬ S k) : DskAt w' F d L s := by
  obtain ⟨f1, f2, f3, f4, f5⟩ := h.inF
  refine ⟨h.box.keptB hk (hS _ f1), h.names.block (hk.block _ h.names.lt (hS _ f2)), h.last.block (hk.block _ h.last.lt (hS _ f3)), own_kept h.chg hk (fun k e => hS _ (f4 k e)), fun i f hi hd => ?_, h.inF, h.ne, h.inj, h.live, h.rows⟩
  have hi' := (List.getElem?_eq_some_iff.1 hi).1
  obtain ⟨a, b⟩ := h.file i f hi hd
  exact ⟨a.keptB hk (hS _ (f5 i hi' hd).1), own_kept b hk (fun k e => hS _ ((f5 i hi' hd).2 k e))⟩
theorem DskAt.below (h : DskAt w F d L s) (hb : Below w.heap.size w w') : DskAt w' F d L s := h.kept (S := fun _ => False) (KeptBut.of_below hb) (fun _ _ => id)
theorem DskAt.more {F' : Nat → Prop} (h : DskAt w F d L s) (hF : ∀ k, F k → F' k) : DskAt w F' d L s := by
  obtain ⟨f1, f2, f3, f4, f5⟩ := h.inF
  exact ⟨h.box, h.names, h.last, h.chg, h.file, ⟨hF _ f1, hF _ f2, hF _ f3, fun k e => hF _ (f4 k e), fun i hi hd => ⟨hF _ (f5 i hi hd).1, fun k e => hF _ ((f5 i hi hd).2 k e)⟩⟩, h.ne, h.inj, h.live, h.rows⟩
theorem DskAt.lt (h : DskAt w F d L s) : d < w.heap.size := h.box.lt
/-- Blocks of other kinds than the box. -/
theorem map_ne_blk {P : Program} {k g b t : Nat} {m : NM} {cs : Array Value} (h : MapAt P k w g m) (hb : Blk w b t cs) : g ≠ b := by
  rintro rfl
  obtain ⟨es, clock, h1, _⟩ := h
  unfold Blk at hb
  rw [hb] at h1
  cases h1
theorem own_ne_blk {B e size n b t : Nat} {v : Value} {xs : List Value} {cs : Array Value} (h : w.ownsRow B e size v n xs) (hb : Blk w b t cs) (ht : e ≠ t) : ∀ k, v.ownBlock = some k → k ≠ b := by
  rintro k hk rfl
  rcases h.2 with ⟨rfl, _⟩ | ⟨g', cap, cur, rfl, _, hh, _⟩
  · cases hk
  · simp only [Value.ownBlock, Option.some.injEq] at hk
    subst hk
    unfold Blk at hb
    rw [hb] at hh
    simp only [Option.some.injEq, Obj.cells.injEq] at hh
    exact ht hh.2.1.symm
theorem blk_ne_blk {b b' t t' : Nat} {cs cs' : Array Value} (h : Blk w b t cs) (hb : Blk w b' t' cs') (ht : t ≠ t') : b ≠ b' := by
  rintro rfl
  unfold Blk at h hb
  rw [hb] at h
  simp only [Option.some.injEq, Obj.cells.injEq] at h
  exact ht h.2.1.symm
/-- Only the box has turned. -/
theorem DskAt.rebox {s' : Dsk} (h : DskAt w F d L s) (hk : KeptBut w w' (fun k => k = d)) (hb : Blk w' d 89 #[.int .i64 s'.room, .map (some L.gN), .map (some L.gL), L.vC, .bool s'.off, .int .i64 s'.fuse])
    (h1 : s'.files = s.files) (h2 : s'.names = s.names) (h3 : s'.last = s.last) (h4 : s'.chg = s.chg) : DskAt w' F d L s' := by
  refine ⟨hb, ?_, ?_, ?_, fun i f hi hd => ?_, ?_, h.ne, ?_, ?_, ?_⟩
  · rw [h2]; exact h.names.block (hk.block _ h.names.lt (map_ne_blk h.names h.box))
  · rw [h3]; exact h.last.block (hk.block _ h.last.lt (map_ne_blk h.last h.box))
  · rw [h4]; exact own_kept h.chg hk (own_ne_blk h.chg h.box (by decide))
  · rw [h1] at hi
    obtain ⟨a, b⟩ := h.file i f hi hd
    exact ⟨a.keptB hk (blk_ne_blk a h.box (by decide)), own_kept b hk (own_ne_blk b h.box (by decide))⟩
  · rw [h1]; exact h.inF
  · rw [h1]; exact h.inj
  · rw [h1, h2, h3, h4]; exact h.live
  · rw [h1]; exact h.rows
end
theorem zero_file : ∀ w : World, (zeroValue 90).run Tryz.prog w = .ok (.pointer none) w := fun w => by kernel_rfl
set_option maxHeartbeats 400000 in
theorem none_any {w : World} {F : Nat → Prop} {d : Nat} {L : Lay} {s : Dsk} (h : DskAt w F d L s) :
    Calls Tryz.prog 38 #[.pointer (some ⟨d, 0, none⟩)] w fun e w' => e = .returned (.bool false) ∧ w = w' := by
  have c1 := h.box.cell 1
  have eN : ∀ w, (binOp .eql 86 (.map (some L.gN)) (.map none)).run Tryz.prog w = .ok (.bool false) w := fun w => run_eql_map_nil w _ _ _ _ Tryz.underlying86
  go_enter Tryz.func38, Tryz.ntmps38
  go_wp2
  go_ret
  exact ⟨rfl, rfl⟩
set_option maxHeartbeats 400000 in
theorem none_nil (w : World) : Calls Tryz.prog 38 #[.pointer none] w fun e w' => e = .returned (.bool true) ∧ w = w' := by
  go_enter Tryz.func38, Tryz.ntmps38
  go_wp2
  go_ret
  exact ⟨rfl, rfl⟩
set_option maxHeartbeats 400000 in
theorem power_any {w : World} {F : Nat → Prop} {d : Nat} {L : Lay} {s : Dsk} (h : DskAt w F d L s) :
    Calls Tryz.prog 98 #[.pointer (some ⟨d, 0, none⟩)] w fun e w' => e = .returned (.int .i64 (if s.off then 7 else 0)) ∧ w = w' := by
  have c4 := h.box.cell 4
  go_enter Tryz.func98, Tryz.ntmps98
  cases ho : s.off <;> rw [ho] at c4 <;> clear ho
  · go_wp2_with ((with_reducible refine (none_any h).mono ?_); rintro e w' ⟨rfl, rfl⟩)
    go_ret
    exact ⟨rfl, rfl⟩
  · go_wp2_with ((with_reducible refine (none_any h).mono ?_); rintro e w' ⟨rfl, rfl⟩)
    go_ret
    exact ⟨rfl, rfl⟩
def errB (b : Bool) : Int := if b then 7 else 0
def fileV (L : Lay) (s : Dsk) (n : List UInt8) : Value := if s.off then .tuple #[.pointer none, .int .i64 7] else match getM n s.names with
  | none => .tuple #[.pointer none, .int .i64 4]
  | some i => .tuple #[.pointer (some ⟨L.blk i, 0, none⟩), .int .i64 0]
section
variable {w : World} {F : Nat → Prop} {d : Nat} {L : Lay} {s : Dsk}
set_option maxHeartbeats 400000 in
theorem burns_any (h : DskAt w F d L s) (ok : s.Ok) :
    Calls Tryz.prog 99 #[.pointer (some ⟨d, 0, none⟩)] w fun e w' => e = .returned (.int .i64 (errB s.burn.off)) ∧ DskAt w' F d L s.burn ∧ KeptBut w w' (fun k => k = d) := by
  have c4 := h.box.cell 4
  have c5 := h.box.cell 5
  have f4 := h.box.frozen 4
  have f5 := h.box.frozen 5
  have hfu := ok.fuse
  have hdl := h.lt
  by_cases hf : 0 < s.fuse
  · have hf' : (0 : Int) < (s.fuse : Int) := by omega
    have hD : DskAt ((w.setCell ⟨d, 5, none⟩ (.int .i64 ((s.fuse : Int) - 1))).setCell ⟨d, 4, none⟩ (.bool ((s.fuse : Int) - 1 == 0))) F d L s.burn := by
      rw [Dsk.burn_pos hf]
      refine h.rebox (((KeptBut.refl w (fun k => k = d)).then_set rfl).then_set rfl) ?_ rfl rfl rfl rfl
      have e2 : (((s.fuse - 1 : Nat) : Nat) : Int) = (s.fuse : Int) - 1 := by omega
      have e3 : (s.fuse - 1 == 0) = ((s.fuse : Int) - 1 == 0) := by rw [Bool.eq_iff_iff]; simp; omega
      have hb := (h.box.set_ 5 (.int .i64 ((s.fuse : Int) - 1))).set_ 4 (.bool ((s.fuse : Int) - 1 == 0))
      simp only [e2, e3]
      simpa using hb
    have hK : KeptBut w ((w.setCell ⟨d, 5, none⟩ (.int .i64 ((s.fuse : Int) - 1))).setCell ⟨d, 4, none⟩ (.bool ((s.fuse : Int) - 1 == 0))) (fun k => k = d) 
      := ((KeptBut.refl w (fun k => k = d)).then_set rfl).then_set rfl
    replace hK := Lib.hid hK
    have hp := power_any hD
    change Calls Tryz.prog 98 _ _ (fun e w' => e = .returned (.int .i64 (errB s.burn.off)) ∧ _ = w') at hp
    replace hp := Lib.hid hp
    replace hD := Lib.hid hD
    go_enter Tryz.func99, Tryz.ntmps99
    go_wp2_with fail
    refine hp.out.mono ?_
    rintro e w' ⟨rfl, rfl⟩
    go_wp2_with fail
    go_ret
    exact ⟨rfl, hD.out, hK.out⟩
  · have hb : s.burn = s := Dsk.burn_zero hf
    have hf' : ¬ (0 : Int) < (s.fuse : Int) := by omega
    rw [hb]
    have hp := power_any h
    change Calls Tryz.prog 98 _ _ (fun e w' => e = .returned (.int .i64 (errB s.off)) ∧ _ = w') at hp
    replace hp := Lib.hid hp
    replace hb := Lib.hid hb
    go_enter Tryz.func99, Tryz.ntmps99
    go_wp2_with fail
    refine hp.out.mono ?_
    rintro e w' ⟨rfl, rfl⟩
    go_wp2_with fail
    go_ret
    exact ⟨rfl, h, KeptBut.refl _ _⟩
set_option maxHeartbeats 400000 in
set_option maxRecDepth 100000 in
theorem file_any (h : DskAt w F d L s) (n : ByteArray) (hn : n.size ≤ maxLen) :
    Calls Tryz.prog 90 #[.pointer (some ⟨d, 0, none⟩), .string n] w fun e w' => e = .returned (fileV L s n.data.toList) ∧ w = w' := by
  have c1 := h.box.cell 1
  have hl := h.names.look_ok (t := 86) (e := 90) Tryz.underlying9 Tryz.underlying86 (zero_file w) hn
  rw [mvM_get] at hl
  have hp := power_any h
  replace hn := Lib.hid hn
  unfold fileV
  cases ho : s.off with
  | true =>
    rw [ho] at hp
    replace ho := Lib.hid ho
    go_enter Tryz.func90, Tryz.ntmps90
    go_wp2_with fail
    refine hp.mono ?_
    rintro e w' ⟨rfl, rfl⟩
    go_wp2_with fail
    go_ret2
    exact ⟨rfl, rfl⟩
  | false =>
    rw [ho] at hp
    replace ho := Lib.hid ho
    cases hg : getM n.data.toList s.names with
    | none =>
      rw [hg] at hl
      replace hg := Lib.hid hg
      simp only [Option.map_none, lookV] at hl
      go_enter Tryz.func90, Tryz.ntmps90
      go_wp2_with fail
      refine hp.mono ?_
      rintro e w' ⟨rfl, rfl⟩
      go_wp2_with fail
      go_ret2
      exact ⟨rfl, rfl⟩
    | some i =>
      rw [hg] at hl
      replace hg := Lib.hid hg
      simp only [Option.map_some, lookV] at hl
      go_enter Tryz.func90, Tryz.ntmps90
      go_wp2_with fail
      refine hp.mono ?_
      rintro e w' ⟨rfl, rfl⟩
      go_wp2_with fail
      go_ret2
      exact ⟨rfl, rfl⟩
end
/-- does, upon a map. -/
def chgVal (g : Nat → Nat) (c : Chg) : Value := .agg #[.string (bs c.fr), .string (bs c.to), ptrV (c.f.map g)]
set_option maxHeartbeats 800000 in
set_option maxRecDepth 100000 in
theorem does_any (w : World) (gm : Nat) (m : NM) (g : Nat → Nat) (c : Chg) (hm : MapAt Tryz.prog 9 w gm (mvM g m)) (h1 : c.fr.length ≤ 24) (h2 : c.to.length ≤ 24) (h3 : c.to ≠ [] → c.f ≠ none) (hl : m.length < 4294967296) :
    Calls Tryz.prog 39 #[chgVal g c, .map (some gm)] w fun e w' => e = .returned (.tuple #[]) ∧ MapAt Tryz.prog 9 w' gm (mvM g (doesC m c)) ∧ KeptBut w w' (fun k => k = gm) := by
  have hA : Below w.heap.size w (w.alloc (.cells #[.string (bs c.fr), .string (bs c.to), ptrV (c.f.map g)] 92)) := (Below.refl _ _).alloc (Nat.le_refl _) _
  have hm1 : MapAt Tryz.prog 9 (w.alloc (.cells #[.string (bs c.fr), .string (bs c.to), ptrV (c.f.map g)] 92)) gm (mvM g m) := hm.block (hA.block gm hm.lt)
  have hk1 : KeptBut w (w.alloc (.cells #[.string (bs c.fr), .string (bs c.to), ptrV (c.f.map g)] 92)) (fun k => k = gm) := KeptBut.of_below hA
  have s1 : (bs c.fr).size ≤ maxLen := by rw [bs_size]; unfold maxLen; omega
  have s2 : (bs c.to).size ≤ maxLen := by rw [bs_size]; unfold maxLen; omega
  have hlt := hm.lt
  replace hm1 := Lib.hid hm1
  replace hk1 := Lib.hid hk1
  replace s1 := Lib.hid s1
  replace s2 := Lib.hid s2
  obtain ⟨fr, to', f⟩ := c
  unfold doesC chgVal
  simp only [] at *
  by_cases e1 : fr = []
  · subst e1
    have i1 : (!(bs []).toList.isEmpty) = false := by rw [bs_toList]; rfl
    by_cases e2 : to' = []
    · subst e2
      simp only [if_true]
      go_enter Tryz.func39, Tryz.ntmps39
      go_wp2_with fail
      go_end0
      exact ⟨rfl, hm1.out, hk1.out⟩
    · obtain ⟨i, rfl⟩ := Option.ne_none_iff_exists'.1 (h3 e2)
      have i2 : (!(bs to').toList.isEmpty) = true := by rw [bs_toList]; simpa using e2
      have hl1 : (mvM g m).length < maxLen := by rw [mvM_len]; unfold maxLen; omega
      rw [if_pos rfl, if_neg e2]
      simp only [Option.map_some, Option.getD_some, ptrV] at *
      replace hl1 := Lib.hid hl1
      replace e2 := Lib.hid e2
      clear h3
      go_enter Tryz.func39, Tryz.ntmps39
      go_wp2_with (at_mapUpdate; refine wpList_nm_store _ rfl _ _ _ 86 rfl 9 90 Tryz.underlying9 Tryz.underlying86 gm _ rfl hm1.out hl1.out (bs to') (g i) rfl rfl s2.out ?_; intro w3 hm3 ht3)
      have hk3 := hk1.out.then_grown ht3.grown (fun k e => (Option.some.inj e).symm)
      rw [bs_data, ← mvM_put] at hm3
      replace hm3 := Lib.hid hm3
      replace hk3 := Lib.hid hk3
      go_wp2_with fail
      go_end0
      exact ⟨rfl, hm3.out, hk3.out⟩
  · have i1 : (!(bs fr).toList.isEmpty) = true := by rw [bs_toList]; simpa using e1
    by_cases e2 : to' = []
    · subst e2
      have i2 : (!(bs []).toList.isEmpty) = false := by rw [bs_toList]; rfl
      rw [if_neg e1, if_pos rfl]
      replace e1 := Lib.hid e1
      clear h3
      go_enter Tryz.func39, Tryz.ntmps39
      go_wp2_with (at_delete; refine wpList_nm_delete _ rfl _ _ 86 9 rfl 90 Tryz.underlying9 Tryz.underlying86 gm _ rfl hm1.out (bs fr) rfl s1.out ?_; intro w1 hm2 ht2; have qc := fun o => World.cell?_of_block (a := (⟨w.heap.size, o, none⟩ : Addr)) (ht2.grown.block w.heap.size (by simp) (by simp; omega)))
      have hk2 := hk1.out.then_grown ht2.grown (fun k e => (Option.some.inj e).symm)
      rw [bs_data, ← mvM_del] at hm2
      replace hm2 := Lib.hid hm2
      replace hk2 := Lib.hid hk2
      go_wp2_with fail
      go_end0
      exact ⟨rfl, hm2.out, hk2.out⟩
    · obtain ⟨i, rfl⟩ := Option.ne_none_iff_exists'.1 (h3 e2)
      have i2 : (!(bs to').toList.isEmpty) = true := by rw [bs_toList]; simpa using e2
      rw [if_neg e1, if_neg e2]
      simp only [Option.map_some, Option.getD_some, ptrV] at *
      replace e1 := Lib.hid e1
      replace e2 := Lib.hid e2
      clear h3
      have hl2 : (mvM g (delM fr m)).length < maxLen := by rw [mvM_len]; have := delM_len fr m; unfold maxLen; omega
      replace hl2 := Lib.hid hl2
      go_enter Tryz.func39, Tryz.ntmps39
      go_wp2_with (first | (at_delete; refine wpList_nm_delete _ rfl _ _ 86 9 rfl 90 Tryz.underlying9 Tryz.underlying86 gm _ rfl hm1.out (bs fr) rfl s1.out ?_; intro w1 hm2 ht2; have qc := fun o => World.cell?_of_block (a := (⟨w.heap.size, o, none⟩ : Addr)) (ht2.grown.block w.heap.size (by simp) (by simp; omega)); rw [bs_data, ← mvM_del] at hm2; replace hm2 := Lib.hid hm2) | (at_mapUpdate; refine wpList_nm_store _ rfl _ _ _ 86 rfl 9 90 Tryz.underlying9 Tryz.underlying86 gm _ rfl hm2.out hl2.out (bs to') (g i) rfl rfl s2.out ?_; intro w3 hm3 ht3))
      have hk2 := hk1.out.then_grown ht2.grown (fun k e => (Option.some.inj e).symm)
      have hk3 := hk2.then_grown ht3.grown (fun k e => (Option.some.inj e).symm)
      rw [bs_data, ← mvM_put] at hm3
      go_end0
      exact ⟨rfl, hm3, hk3⟩
def Fx (F : Nat → Prop) (w w' : World) : Nat → Prop := fun k => F k ∨ (w.heap.size ≤ k ∧ k < w'.heap.size)
/-- What an operation leaves: another disk in its place, and all else az it was. -/
structure Went (w w' : World) (F : Nat → Prop) (d : Nat) (s' : Dsk) : Prop where
  kept : KeptBut w w' F
  at_ : ∃ L', DskAt w' (Fx F w w') d L' s'
section
variable {w w' : World} {F : Nat → Prop} {d : Nat} {L : Lay} {s : Dsk}
theorem own_ne_map {P : Program} {k g B e size n : Nat} {v : Value} {xs : List Value} {m : NM} (h : w.ownsRow B e size v n xs) (hm : MapAt P k w g m) : ∀ j, v.ownBlock = some j → j ≠ g := by
  rintro j hj rfl
  rcases h.2 with ⟨rfl, _⟩ | ⟨g', cap, cur, rfl, _, hh, _⟩
  · cases hj
  · simp only [Value.ownBlock, Option.some.injEq] at hj
    subst hj
    obtain ⟨es, clock, h1, _⟩ := hm
    rw [h1] at hh
    cases hh
theorem own_ne_own {B e size n B' e' size' n' : Nat} {v v' : Value} {xs xs' : List Value} (h : w.ownsRow B e size v n xs) (h' : w.ownsRow B' e' size' v' n' xs') (he : e ≠ e') : ∀ j, v.ownBlock = some j → v'.ownBlock ≠ some j := by
  intro j hj hj'
  rcases h'.2 with ⟨rfl, _⟩ | ⟨g', cap, cur, rfl, _, hh, _⟩
  · cases hj'
  · simp only [Value.ownBlock, Option.some.injEq] at hj'
    subst hj'
    exact own_ne_blk h (show Blk w _ _ _ from hh) he _ hj rfl
theorem DskAt.renames (h : DskAt w F d L s) (hk : KeptBut w w' (fun k => k = L.gN)) {m : NM} (hm : MapAt Tryz.prog 9 w' L.gN (mvM L.blk m)) (hlv : ∀ p ∈ m, ¬ L.dead p.2) : DskAt w' F d L { s with names := m } := by
  refine ⟨h.box.keptB hk (fun e => map_ne_blk h.names h.box e.symm), hm, h.last.block (hk.block _ h.last.lt (fun e => h.ne e.symm)), own_kept h.chg hk (fun k e => own_ne_map h.chg h.names k e), fun i f hi hd => ?_, h.inF, h.ne, h.inj, ⟨hlv, h.live.2⟩, h.rows⟩
  obtain ⟨a, b⟩ := h.file i f hi hd
  exact ⟨a.keptB hk (fun e => map_ne_blk h.names a e.symm), own_kept b hk (fun k e => own_ne_map b h.names k e)⟩
theorem chgV_snoc (g : Nat → Nat) (l : List Chg) (c : Chg) : chgV g (l ++ [c]) = chgV g l ++ [.string (bs c.fr), .string (bs c.to), ptrV (c.f.map g)] := by simp [chgV]
/-- A change more: the row has grown, the box has the new one. -/
theorem DskAt.rechg (h : DskAt w F d L s) {ob : Obj} {w2 : World} {v2 : Value} {c : Chg}
    (hown : w2.ownsRow 0 92 3 v2 (s.chg.length + 1) (chgV L.blk s.chg ++ [.string (bs c.fr), .string (bs c.to), ptrV (c.f.map L.blk)])) (hg : (w.alloc ob).grownBy w2 L.vC.ownBlock)
    (hat : v2.ownBlock = L.vC.ownBlock ∨ v2.ownBlock = some (w.heap.size + 1)) (hlv : ∀ i, c.f = some i → ¬ L.dead i) :
    DskAt (w2.setCell ⟨d, 3, none⟩ v2) (Fx F w w2) d { L with vC := v2 } { s with chg := s.chg ++ [c] } ∧ KeptBut w (w2.setCell ⟨d, 3, none⟩ v2) F ∧ w2.cell? ⟨d, 3, none⟩ = some L.vC ∧ w2.frozen? ⟨d, 3, none⟩ = false ∧ ∃ A n c, v2 = .slice A n c := by
  obtain ⟨f1, f2, f3, f4, f5⟩ := h.inF
  have hdl := h.lt
  have hk2 : KeptBut w w2 (fun k => L.vC.ownBlock = some k) := (KeptBut.of_below ((Below.refl _ _).alloc (Nat.le_refl _) ob)).then_grown hg (fun k e => e)
  have hbox2 := h.box.keptB hk2 (fun e => own_ne_blk h.chg h.box (by decide) _ e rfl)
  have hne : ∀ k, v2.ownBlock = some k → k ≠ d := by
    intro k hk
    rcases hat with e | e
    · rw [e] at hk; exact own_ne_blk h.chg h.box (by decide) _ hk
    · rw [e] at hk; injection hk with hk; omega
  have hkB : KeptBut w (w2.setCell ⟨d, 3, none⟩ v2) (fun k => L.vC.ownBlock = some k ∨ k = d) := (hk2.mono (fun k _ e => .inl e)).then_set (.inr rfl)
  have hs2 := hk2.size
  refine ⟨⟨?_, ?_, ?_, ?_, fun i f hi hd => ?_, ?_, h.ne, h.inj, ⟨h.live.1, h.live.2.1, (fun x hx i hi => by
    rcases List.mem_append.1 hx with h1 | h1
    · exact h.live.2.2.1 x h1 i hi
    · rw [List.mem_singleton.1 h1] at hi; exact hlv i hi), h.live.2.2.2⟩, h.rows⟩, hkB.mono (fun k _ e => e.elim (f4 k) (fun e => e ▸ f1)), ?_, ?_, ?_⟩
  · simpa using hbox2.set_ 3 v2
  · exact h.names.block (hkB.block _ h.names.lt (fun e => e.elim (fun e => own_ne_map h.chg h.names _ e rfl) (map_ne_blk h.names h.box)))
  · exact h.last.block (hkB.block _ h.last.lt (fun e => e.elim (fun e => own_ne_map h.chg h.last _ e rfl) (map_ne_blk h.last h.box)))
  · rw [chgV_snoc]
    simp only [List.length_append, List.length_singleton]
    exact own_block hown fun k hk => Below.heap_setCell _ _ _ _ (hne k hk)
  · obtain ⟨a, b⟩ := h.file i f hi hd
    exact ⟨a.keptB hkB (fun e => e.elim (fun e => own_ne_blk h.chg a (by decide) _ e rfl) (blk_ne_blk a h.box (by decide))), own_kept b hkB (fun k hk e => e.elim (fun e => own_ne_own b h.chg (by decide) k hk e) (own_ne_blk b h.box (by decide) k hk))⟩
  · refine ⟨.inl f1, .inl f2, .inl f3, fun k hk => ?_, fun i hi hd => ⟨.inl (f5 i hi hd).1, fun k e => .inl ((f5 i hi hd).2 k e)⟩⟩
    rcases hat with e | e
    · simp only [e] at hk; exact .inl (f4 k hk)
    · have h1 := (own_lt hown k hk).2
      simp only [e] at hk
      injection hk with hk
      exact .inr ⟨by omega, h1⟩
  · simpa using hbox2.cell 3
  · exact hbox2.frozen 3
  · rcases hown.2 with ⟨hv, _⟩ | ⟨g, cap, cur, hv, _⟩
    · exact ⟨_, _, _, hv⟩
    · exact ⟨_, _, _, hv⟩
theorem chg_info : (Tryz.prog.info? 92).map (fun i => (i.zero, i.size, i.bytes)) = some (some (.agg #[.string ⟨#[]⟩, .string ⟨#[]⟩, .pointer none]), 3, 40) := by kernel_rfl
theorem reads3' (w : World) (t : TypeId) (x y z : Value) : Reads (w.alloc (.cells #[x, y, z] t)) (w.heap.size + 1) 3 (some ⟨w.heap.size, 0, none⟩) 1 [x, y, z] :=
  ⟨rfl, fun _ => ⟨_, rfl, by simp, fun j u hu => by
    have hj : j < 3 := (List.getElem?_eq_some_iff.1 hu).1
    match j, hj with
    | 0, _ => simp at hu; subst hu; simp [Addr.add]
    | 1, _ => simp at hu; subst hu; simp [Addr.add]
    | 2, _ => simp at hu; subst hu; simp [Addr.add]⟩⟩
end
def wentErr (b : Bool) (e : Ending) : Prop := e = .returned (.int .i64 (errB b))
theorem Went.of {w w' : World} {F : Nat → Prop} {d : Nat} {L : Lay} {s : Dsk} (hk : KeptBut w w' F) (h : DskAt w' F d L s) : Went w w' F d s := ⟨hk, L, h.more (fun _ => .inl)⟩
set_option maxRecDepth 100000 in
set_option maxHeartbeats 2000000 in
theorem changed_any {w : World} {F : Nat → Prop} {d : Nat} {L : Lay} {s : Dsk} (h : DskAt w F d L s) (ok : s.Ok) (c : Chg) (h1 : c.fr.length ≤ 24) (h2 : c.to.length ≤ 24) (h3 : c.to ≠ [] → c.f ≠ none) (hlv : ∀ i, c.f = some i → ¬ L.dead i) (hn : s.names.length < 1073741824) (hl : s.chg.length < 1073741824) :
    Calls Tryz.prog 95 #[.pointer (some ⟨d, 0, none⟩), chgVal L.blk c] w fun e w' => e = .returned (.int .i64 (errB s.burn.off)) ∧ Went w w' F d (s.changed c).1 := by
  obtain ⟨i0, hi0, hz0, hz1, hz2⟩ := info_parts chg_info
  have hA : Below w.heap.size w (w.alloc (.cells #[.string (bs c.fr), .string (bs c.to), ptrV (c.f.map L.blk)] 92)) := (Below.refl _ _).alloc (Nat.le_refl _) _
  have hX : Blk (w.alloc (.cells #[.string (bs c.fr), .string (bs c.to), ptrV (c.f.map L.blk)] 92)) w.heap.size 92 #[.string (bs c.fr), .string (bs c.to), ptrV (c.f.map L.blk)] := Blk.new _ _ _
  have hD := h.below hA
  have hF := h.inF
  have hdl := h.lt
  have hgl := h.names.lt
  have hbn := burns_any hD ok
  obtain ⟨e1, e2, e3, e4, e5, e6⟩ := @Dsk.burn_same s
  have hd0 := h3
  replace h3 := Lib.hid h3
  replace hlv := Lib.hid hlv
  replace hd0 := Lib.hid hd0
  generalize hv : ptrV (c.f.map L.blk) = pv at *
  replace hv := Lib.hid hv
  unfold chgVal
  rw [hv.out]
  unfold Dsk.changed
  rw [← e4] at hl
  rw [← e2] at hn
  clear e1 e2 e3 e4 e5 e6
  cases ho : s.burn.off with
  | true =>
    rw [ho] at hbn
    replace ho := Lib.hid ho
    rw [if_pos rfl]
    simp only [errB, if_true] at *
    go_enter Tryz.func95, Tryz.ntmps95
    go_wp2_with fail
    refine hbn.mono ?_
    rintro e w1 ⟨rfl, hD1, hk1⟩
    replace hk1 := Lib.hid (((KeptBut.of_below hA (S := F)).trans hk1 (fun k _ e => e ▸ hF.1)))
    go_wp2_with fail
    go_ret
    exact ⟨rfl, .of hk1.out hD1⟩
  | false =>
    rw [ho] at hbn
    replace ho := Lib.hid ho
    rw [if_neg (by decide)]
    simp only [errB] at *
    go_enter Tryz.func95, Tryz.ntmps95
    go_wp2_with fail
    refine hbn.mono ?_
    rintro e w1 ⟨rfl, hD1, hk1⟩
    have hX1 := hX.keptB hk1 (by omega)
    have hK1 := (KeptBut.of_below hA (S := F)).trans hk1 (fun k _ e => e ▸ hF.1)
    have x0 := hX1.cell 0
    have x1 := hX1.cell 1
    have x2 := hX1.cell 2
    have b1 := hD1.box.cell 1
    have hl1 := hX1.lt
    have hdl1 := hD1.lt
    replace hK1 := Lib.hid hK1
    clear hk1
    go_wp2_with fail
    have hxc := @Ext.cell
    have hxf := @Ext.frozen
    refine wp_hide (fun Q0 hQ0 => ?_)
    refine wp_region_line (fun w' => ∃ x : Ext _, w' = x.w) [some false, some false, some false, some false, some false, none] 0 (by kernel_rfl) (by kernel_rfl) ⟨⟨_, (Below.refl _ _).drew⟩, rfl⟩ ?_
    simp only [earlyL, tailL]
    repeat (first | ((with_reducible refine wpMix_p ?_); go_big_quiet_step (fail); refine wpQuiet_nil ?_) | ((with_reducible refine wpMix_e ?_); go_big_quiet_step ((first | fail)); refine wpQuiet_nil ?_))
    refine wpMix_nil ?_
    clear hxc hxf
    intro wx hwx
    obtain ⟨x, hx⟩ := hwx
    have hb := x.below
    rw [← hx] at hb
    clear hx x
    have hD2 := hD1.below hb
    have hX2 := hX1.below hb hl1
    have hK2 := hK1.out.then_below hb
    have hcall := does_any wx L.gN s.burn.names L.blk c hD2.names h1 h2 hd0.out (by omega)
    unfold chgVal at hcall
    rw [hv.out] at hcall
    clear x0 x1 x2 b1 hb
    replace hcall := Lib.hid hcall
    refine wpTail_step ?_
    intro Q1 hQ1
    go_wp2_with fail
    refine hcall.out.mono ?_
    rintro e w3 ⟨rfl, hm3, hk3⟩
    have hD3 := hD2.renames hk3 hm3 (fun p hp => by
      rcases doesC_mem hp with h1 | ⟨h1, rfl⟩
      · exact hD2.live.1 p h1
      · obtain ⟨i', hi'⟩ := Option.ne_none_iff_exists'.1 (hd0.out h1)
        simp only [hi', Option.getD_some]
        exact hlv.out i' hi')
    have hX3 := hX2.keptB hk3 (fun e => by have e' : w.heap.size = L.gN := e; omega)
    have hK3 := hK2.trans hk3 (fun k _ e => e ▸ hF.2.1)
    replace hK3 := Lib.hid hK3
    clear hk3 hm3 hK2 hK1
    go_wp2_with fail
    refine hQ1 _ _ rfl (fun h => absurd h (by decide)) ?_
    clear hQ1 Q1 hcall
    refine wpTail_nil ?_
    refine hQ0 _ _ ?_
    clear hQ0 Q0
    have b3 := hD3.box.cell 3
    have y0 := hX3.cell 0
    have y1 := hX3.cell 1
    have y2 := hX3.cell 2
    have hl3 := hX3.lt
    have hdl3 := hD3.lt
    go_wp2_with fail
    have hxc := @Ext.cell
    have hxf := @Ext.frozen
    refine wp_hide (fun Q0 hQ0 => ?_)
    refine wp_region_line (fun w' => ∃ x : Ext _, w' = x.w) [some true, some false, some false, some false, some false, some false, none, none, none, none, none] 1 (by kernel_rfl) (by kernel_rfl) ⟨⟨_, (Below.refl _ _).drew⟩, rfl⟩ ?_
    simp only [earlyL, tailL]
    repeat (first | ((with_reducible refine wpMix_p ?_); go_big_quiet_step (fail); refine wpQuiet_nil ?_) | ((with_reducible refine wpMix_e ?_); go_big_quiet_step ((first | fail)); refine wpQuiet_nil ?_))
    refine wpMix_nil ?_
    clear hxc hxf
    intro wx hwx
    obtain ⟨x, hx⟩ := hwx
    have hb := x.below
    rw [← hx] at hb
    clear hx x
    have hbs := hb.size
    have hD4 := hD3.below hb
    have hK4 := hK3.out.then_below hb
    have hown := hD4.chg
    have hownx := World.ownsRow.alloc hown (.cells #[.string (bs c.fr), .string (bs c.to), pv] 92)
    have hrd := reads3' wx 92 (.string (bs c.fr)) (.string (bs c.to)) pv
    have hpv : ∀ u ∈ [Value.string (bs c.fr), .string (bs c.to), pv], u.oneCell' = true := by
      intro u hu
      simp at hu
      rcases hu with rfl | rfl | rfl
      · rfl
      · rfl
      · rw [← hv.out]; cases c.f.map L.blk <;> rfl
    clear b3 y0 y1 y2 hX3 hX2 hX1
    replace hK4 := Lib.hid hK4
    replace hpv := Lib.hid hpv
    replace hD4 := Lib.hid hD4
    clear hown
    refine wpTail_step ?_
    intro Q1 hQ1
    go_wp2_with fail
    refine hQ1 _ _ rfl (fun _ => ⟨⟨_, hb.alloc hbs _⟩, rfl⟩) ?_
    clear hQ1 Q1
    refine wpTail_step ?_
    intro Q1 hQ1
    go_wp2_with (at_builtin; refine wpList_append_any _ rfl (.tmp 21) (.tmp 23) 87 rfl 0 92 i0 (.agg #[.string ⟨#[]⟩, .string ⟨#[]⟩, .pointer none]) 3 40 Tryz.underlying87 hi0 hz0 hz1 hz2 rfl (by omega) L.vC s.burn.chg.length (chgV L.blk s.burn.chg) rfl hownx (wx.heap.size + 1) (some ⟨wx.heap.size, 0, none⟩) 1 1 [.string (bs c.fr), .string (bs c.to), pv] rfl hrd hpv.out (by unfold maxLen; omega) (by omega) (by simp) ?_; intro v2 w2b hown2 hgr2 hat2)
    refine hQ1 _ _ rfl (fun h => absurd h (by decide)) ?_
    clear hQ1 Q1
    rw [← hv.out] at hown2
    obtain ⟨hD5, hk5, c5, f5, A7, n7, cp7, h7⟩ := hD4.out.rechg (c := c) hown2 hgr2 (by simpa using hat2) hlv.out
    subst h7
    have hK5 := hK4.out.trans hk5 (fun k _ e => e)
    replace hD5 := Lib.hid hD5
    replace hK5 := Lib.hid hK5
    clear hown2 hgr2 hat2 hownx hrd hk5
    refine wpTail_step ?_
    intro Q1 hQ1
    go_wp2_with (fail)
    refine hQ1 _ _ rfl (fun h => absurd h (by decide)) ?_
    clear hQ1 Q1
    refine wpTail_step ?_
    intro Q1 hQ1
    go_wp2_with (fail)
    refine hQ1 _ _ rfl (fun h => absurd h (by decide)) ?_
    clear hQ1 Q1
    refine wpTail_step ?_
    intro Q1 hQ1
    go_wp2_with (fail)
    refine hQ1 _ _ rfl (fun h => absurd h (by decide)) ?_
    clear hQ1 Q1
    refine wpTail_nil ?_
    refine hQ0 _ _ ?_
    clear hQ0 Q0
    go_wp2_with fail
    go_ret
    have hs3 := hK3.out.size
    have hs5 := hK4.out.size
    exact ⟨rfl, hK5.out, _, hD5.out.more (fun k hk => hk.elim .inl (fun e => .inr ⟨by omega, by simpa [World.setCell] using e.2⟩))⟩
set_option maxRecDepth 100000 in
set_option maxHeartbeats 2000000 in
theorem right1_any (c : UInt8) (w : World) :
    Calls Tryz.prog 134 #[B8 c] w fun e w' => e = .returned (.bool (!okB c)) ∧ w = w' := by
  have hc := c.toNat_lt
  have e : okB c = !((decide (c.toNat < 97) || decide (122 < c.toNat)) && (decide (c.toNat < 48) || decide (57 < c.toNat)) && !(c.toNat == 46) && !(c.toNat == 45)) := by
    unfold okB
    have h1 : (c < 97) = (c.toNat < 97) := rfl
    have h2 : (122 < c) = (122 < c.toNat) := rfl
    have h3 : (c < 48) = (c.toNat < 48) := rfl
    have h4 : (57 < c) = (57 < c.toNat) := rfl
    have h5 : (c != 46) = !(c.toNat == 46) := by
      rw [bne, Bool.eq_iff_iff]; simp [← UInt8.toNat_inj]
    have h6 : (c != 45) = !(c.toNat == 45) := by
      rw [bne, Bool.eq_iff_iff]; simp [← UInt8.toNat_inj]
    rw [h5, h6]
    simp only [h1, h2, h3, h4]
  rw [e]
  clear e
  unfold B8
  generalize c.toNat = n at *
  go_enter Tryz.func134, Tryz.ntmps134
  go_wp2
  all_goals go_ret
  all_goals refine ⟨congrArg (fun b => Ending.returned (Value.bool b)) ?_, rfl⟩
  all_goals rw [Bool.eq_iff_iff]
  all_goals simp
  all_goals omega
/-- The place of the first one that is not okay. -/
def badAt (l : List UInt8) : Int := match l.findIdx? (fun c => !okB c) with
  | some i => i
  | none => -1
theorem badAt_cons (c : UInt8) (l : List UInt8) : badAt (c :: l) = if okB c then (if badAt l < 0 then -1 else badAt l + 1) else 0 := by
  unfold badAt
  rw [List.findIdx?_cons]
  cases okB c
  · simp
  · simp
    cases h : List.findIdx? (fun c => !okB c) l <;> simp
    omega
theorem badAt_lt (l : List UInt8) : badAt l < 0 ↔ l.all okB = true := by
  induction l with
  | nil => simp [badAt]
  | cons c l ih =>
    rw [badAt_cons]
    cases h : okB c
    · simp [h]
    · simp only [if_true, List.all_cons, h, Bool.true_and]
      rw [← ih]
      split <;> omega
set_option maxRecDepth 100000 in
set_option maxHeartbeats 2000000 in
theorem bad_any (g cap : Nat) (l : List UInt8) (w : World) (hc : ∀ j, j < l.length → w.cell? ⟨g, j, none⟩ = some (B8 (l.getD j 0))) (hl : l.length ≤ 1073741824) :
    Calls Tryz.prog 169 #[.slice (some ⟨g, 0, none⟩) l.length cap, .func (.func 134) #[] #[]] w fun e w' => ∃ r : Int, e = .returned (.int .i64 r) ∧ (r < 0 ↔ l.all okB = true) ∧ w = w' := by
  replace hc := Lib.hid hc
  go_enter Tryz.func169, Tryz.ntmps169
  go_wp2_with fail
  go_loop [8] (fun i => ∃ k : Nat, k ≤ l.length ∧ i = .int .i64 k ∧ (l.take k).all okB = true) (fun i => l.length - (intOf i).toNat)
  case atStart => exact ⟨0, Nat.zero_le _, rfl, by simp⟩
  case round =>
    obtain ⟨k, hk, rfl, hall⟩ := hrel
    by_cases hlt : k < l.length
    · have hck := hc.out k hlt
      have hcx : l.getD k 0 = l[k] := by simp [hlt]
      rw [hcx] at hck
      have hts : (l.take (k + 1)).all okB = ((l.take k).all okB && okB l[k]) := by rw [List.take_succ_eq_append_getElem hlt, List.all_append]; simp
      have hr1 := right1_any l[k]
      have hno : okB l[k] = false → l.all okB = false := by
        intro h
        rw [List.all_eq_false]
        exact ⟨l[k], List.getElem_mem hlt, by simpa using h⟩
      generalize l[k] = c at *
      clear hcx
      replace hno := Lib.hid hno
      replace hts := Lib.hid hts
      replace hall := Lib.hid hall
      cases ho : okB c with
      | true =>
        rw [ho] at hr1
        replace ho := Lib.hid ho
        replace hr1 := Lib.hid hr1
        go_wp2_with (go_at_call 134; refine (hr1.out _).mono ?_; rintro e w' ⟨rfl, rfl⟩)
        go_round
        case rel => exact ⟨k + 1, by omega, by go_num, by rw [hts.out, hall.out, ho.out]; rfl⟩
        case measure => simp [intOf]; omega
      | false =>
        rw [ho] at hr1
        replace hr1 := Lib.hid hr1
        replace ho := Lib.hid ho
        go_wp2_with (go_at_call 134; refine (hr1.out _).mono ?_; rintro e w' ⟨rfl, rfl⟩)
        go_ret
        exact ⟨k, rfl, by rw [hno.out ho.out]; simp, rfl⟩
    · obtain rfl : k = l.length := by omega
      replace hall := Lib.hid hall
      go_wp2
      go_ret
      exact ⟨-1, rfl, by have := hall.out; simp at this; simp; exact this, rfl⟩
theorem contains_any (g cap : Nat) (l : List UInt8) (w : World) (hc : ∀ j, j < l.length → w.cell? ⟨g, j, none⟩ = some (B8 (l.getD j 0))) (hl : l.length ≤ 1073741824) :
    Calls Tryz.prog 133 #[.slice (some ⟨g, 0, none⟩) l.length cap, .func (.func 134) #[] #[]] w fun e w' => e = .returned (.bool (!l.all okB)) ∧ w = w' := by
  have hb := bad_any g cap l w hc hl
  replace hb := Lib.hid hb
  clear hc hl
  go_enter Tryz.func133, Tryz.ntmps133
  go_wp2_with fail
  refine hb.out.mono ?_
  rintro e w' ⟨r, rfl, hr, rfl⟩
  replace hr := Lib.hid hr
  go_wp2_with fail
  go_ret
  refine ⟨congrArg (fun b => Ending.returned (Value.bool b)) ?_, rfl⟩
  rw [Bool.eq_iff_iff]
  have := hr.out
  cases hq : l.all okB
  · rw [hq] at this
    have h2 : ¬ r < 0 := fun h => by have := this.1 h; cases this
    simp; omega
  · have h2 := this.2 hq
    simp; omega
set_option maxRecDepth 100000 in
set_option maxHeartbeats 2000000 in
theorem right_any (s : ByteArray) (w : World) : Calls Tryz.prog 94 #[.string s] w fun e w' => e = .returned (.bool (rightB s.data.toList)) ∧ Below w.heap.size w w' := by
  have hsz : s.data.toList.length = s.size := rfl
  by_cases h0 : s.data.toList = []
  · have hr : rightB s.data.toList = false := by unfold rightB; rw [h0]; rfl
    have i1 : (!s.toList.isEmpty) = false := by rw [ByteArray.toList_eq, h0]; rfl
    rw [hr]
    clear hsz
    replace h0 := Lib.hid h0
    replace hr := Lib.hid hr
    go_enter Tryz.func94, Tryz.ntmps94
    go_wp2
    go_ret
    exact ⟨rfl, Below.refl _ _⟩
  · have i1 : (!s.toList.isEmpty) = true := by rw [ByteArray.toList_eq]; simpa using h0
    by_cases h1 : s.size ≤ 24
    · have hr : rightB s.data.toList = s.data.toList.all okB := by unfold rightB; rw [hsz, show s.data.toList.isEmpty = false from by simpa using h0, decide_eq_true h1]; rfl
      have h1' : (s.size : Int) ≤ 24 := by omega
      obtain ⟨cap, W2, hrun, hbW, hzW, hcells⟩ := conv_bytes w s
      have hcon := contains_any w.heap.size cap s.data.toList W2 (fun j hj => hcells j (by omega)) (by omega)
      rw [hsz] at hcon
      rw [hr]
      clear hsz
      replace h0 := Lib.hid h0
      replace hr := Lib.hid hr
      replace hcon := Lib.hid hcon
      clear hcells hzW
      go_enter Tryz.func94, Tryz.ntmps94
      go_wp2_with fail
      refine hcon.out.mono ?_
      rintro e w' ⟨rfl, rfl⟩
      go_wp2_with fail
      go_ret
      exact ⟨by simp, hbW⟩
    · have hr : rightB s.data.toList = false := by unfold rightB; rw [hsz]; simp [h1]
      have h1' : ¬ (s.size : Int) ≤ 24 := by omega
      rw [hr]
      clear hsz
      replace h0 := Lib.hid h0
      replace hr := Lib.hid hr
      go_enter Tryz.func94, Tryz.ntmps94
      go_wp2
      go_ret
      exact ⟨rfl, Below.refl _ _⟩
theorem mvM_congr {g g' : Nat → Nat} {m : NM} (h : ∀ p ∈ m, g p.2 = g' p.2) : mvM g m = mvM g' m := by
  unfold mvM
  exact List.map_congr_left fun p hp => by rw [h p hp]
theorem chgV_congr {g g' : Nat → Nat} {l : List Chg} (h : ∀ c ∈ l, ∀ i, c.f = some i → g i = g' i) : chgV g l = chgV g' l := by
  unfold chgV
  rw [List.flatMap_def, List.flatMap_def, List.map_congr_left fun c hc => ?_]
  have : c.f.map g = c.f.map g' := by
    cases hf : c.f with
    | none => rfl
    | some i => simp only [Option.map_some]; rw [h c hc i hf]
  rw [this]
section
variable {w w' : World} {F F' : Nat → Prop} {d : Nat} {L : Lay} {s s' : Dsk}
theorem Went.pull {w1 : World} (hk : KeptBut w w1 F) (hF : ∀ k, F' k → F k ∨ (w.heap.size ≤ k ∧ k < w1.heap.size)) (h : Went w1 w' F' d s) : Went w w' F d s := by
  obtain ⟨h1, L', h2⟩ := h
  have hs := hk.size
  have hs' := h1.size
  refine ⟨hk.trans h1 (fun k hk' e => (hF k e).elim id (fun e => by omega)), L', h2.more (fun k e => ?_)⟩
  rcases e with e | e
  · rcases hF k e with e | e
    · exact .inl e
    · exact .inr ⟨e.1, by omega⟩
  · exact .inr ⟨by omega, e.2⟩
theorem DskAt.newFile (h : DskAt w F d L s) (ok : s.Ok) :
    DskAt (w.alloc (.cells #[.slice none 0 0, .int .i64 0] 99)) (fun k => F k ∨ k = w.heap.size) d { L with blk := fun i => if i = s.files.length then w.heap.size else L.blk i, row := fun i => if i = s.files.length then .slice none 0 0 else L.row i } { s with files := s.files ++ [⟨[], 0⟩] } := by
  have hA : Below w.heap.size w (w.alloc (.cells #[.slice none 0 0, .int .i64 0] 99)) := (Below.refl _ _).alloc (Nat.le_refl _) _
  have h1 := h.below hA
  obtain ⟨f1, f2, f3, f4, f5⟩ := h.inF
  have hlt : ∀ i, i < s.files.length → ¬ L.dead i → L.blk i < w.heap.size := fun i hi hd => ((h.file i _ (List.getElem?_eq_getElem hi) hd).1).lt
  have hnd : ¬ L.dead s.files.length := fun e => by have := h.live.2.2.2 _ e; omega
  have hne : ∀ i, i < s.files.length → i ≠ s.files.length := fun i hi e => by omega
  refine ⟨h1.box, ?_, ?_, ?_, fun i f hi hd => ?_, ⟨.inl f1, .inl f2, .inl f3, fun k e => .inl (f4 k e), fun i hi hd => ?_⟩, h.ne, fun i j hi hj di dj e => ?_, ⟨h.live.1, h.live.2.1, h.live.2.2.1, fun i hi => by have := h.live.2.2.2 i hi; simp; omega⟩, fun i j k hi hj di dj e1 e2 => ?_⟩
  · rw [mvM_congr (g' := L.blk) (fun p hp => by have := (ok.names p hp).2; simp [hne _ this])]
    exact h1.names
  · rw [mvM_congr (g' := L.blk) (fun p hp => by have := (ok.last p hp).2; simp [hne _ this])]
    exact h1.last
  · rw [chgV_congr (g' := L.blk) (fun c hc i hi => by have := (ok.chg c hc).2.2.1 i hi; simp [hne _ this])]
    exact h1.chg
  · by_cases e : i = s.files.length
    · subst e
      simp at hi
      subst hi
      dsimp only
      rw [if_pos rfl, if_pos rfl]
      exact ⟨Blk.new _ _ _, OwnB.nil _ _⟩
    · dsimp only
      rw [if_neg e, if_neg e]
      rw [List.getElem?_append] at hi
      split at hi
      · exact h1.file i f hi hd
      · have h2 := (List.getElem?_eq_some_iff.1 hi).1
        simp only [List.length_singleton] at h2
        omega
  · by_cases e : i = s.files.length
    · subst e
      dsimp only
      rw [if_pos rfl, if_pos rfl]
      exact ⟨.inr rfl, fun k hk => by cases hk⟩
    · simp only [if_neg e]
      simp at hi
      exact ⟨.inl (f5 i (by omega) hd).1, fun k hk => .inl ((f5 i (by omega) hd).2 k hk)⟩
  · simp at hi hj
    by_cases e1 : i = s.files.length <;> by_cases e2 : j = s.files.length
    · omega
    · simp only [e1, if_true, if_neg e2] at e
      have := hlt j (by omega) dj
      omega
    · simp only [e2, if_true, if_neg e1] at e
      have := hlt i (by omega) di
      omega
    · simp only [if_neg e1, if_neg e2] at e
      exact h.inj i j (by omega) (by omega) di dj e
  · simp at hi hj
    by_cases g1 : i = s.files.length
    · simp only [g1, if_true] at e1
      cases e1
    · by_cases g2 : j = s.files.length
      · simp only [g2, if_true] at e2
        cases e2
      · simp only [if_neg g1] at e1
        simp only [if_neg g2] at e2
        exact h.rows i j k (by omega) (by omega) di dj e1 e2
theorem file_off (h : DskAt w F d L s) (n : ByteArray) (hn : n.size ≤ maxLen) (ho : s.off = true) : Calls Tryz.prog 90 #[.pointer (some ⟨d, 0, none⟩), .string n] w fun e w' => e = .returned (.tuple #[.pointer none, .int .i64 7]) ∧ w = w' := by
  have := file_any h n hn; unfold fileV at this; rw [ho] at this; exact this
theorem file_none (h : DskAt w F d L s) (n : ByteArray) (hn : n.size ≤ maxLen) (ho : s.off = false) (hg : getM n.data.toList s.names = none) : Calls Tryz.prog 90 #[.pointer (some ⟨d, 0, none⟩), .string n] w fun e w' => e = .returned (.tuple #[.pointer none, .int .i64 4]) ∧ w = w' := by
  have := file_any h n hn; unfold fileV at this; rw [ho, hg] at this; exact this
theorem file_some (h : DskAt w F d L s) (n : ByteArray) (hn : n.size ≤ maxLen) (ho : s.off = false) {i : Nat} (hg : getM n.data.toList s.names = some i) : Calls Tryz.prog 90 #[.pointer (some ⟨d, 0, none⟩), .string n] w fun e w' => e = .returned (.tuple #[.pointer (some ⟨L.blk i, 0, none⟩), .int .i64 0]) ∧ w = w' := by
  have := file_any h n hn; unfold fileV at this; rw [ho, hg] at this; exact this
theorem changed_err (s : Dsk) (c : Chg) : (((s.changed c).2 : Nat) : Int) = errB s.burn.off := by
  unfold Dsk.changed errB
  cases s.burn.off <;> rfl
theorem getM_len {k : List UInt8} {m : NM} {v : Nat} (h : getM k m = some v) (hm : ∀ p ∈ m, p.1.length ≤ 24) : k.length ≤ 24 := hm _ (getM_mem h)
end
set_option maxRecDepth 100000 in
set_option maxHeartbeats 2000000 in
theorem Create_any {w : World} {F : Nat → Prop} {d : Nat} {L : Lay} {s : Dsk} (h : DskAt w F d L s) (ok : s.Ok) (n : ByteArray) (hn : n.size ≤ maxLen) (hnl : s.names.length < 1073741824) (hl : s.chg.length < 1073741824) :
    Calls Tryz.prog 50 #[.pointer (some ⟨d, 0, none⟩), .string n] w fun e w' => e = .returned (.int .i64 ((s.create n.data.toList).2 : Nat)) ∧ Went w w' F d (s.create n.data.toList).1 := by
  rcases Bool.eq_false_or_eq_true s.off with ho | ho
  · have hR : s.create n.data.toList = (s, 7) := by unfold Dsk.create; rw [if_pos ho]
    rw [hR]
    clear hR
    have hf := Lib.hid (file_off h n hn ho)
    replace ho := Lib.hid ho
    replace hn := Lib.hid hn
    go_enter Tryz.func50, Tryz.ntmps50
    go_wp2_with fail
    refine hf.out.mono ?_
    rintro e w' ⟨rfl, rfl⟩
    go_wp2_with fail
    go_ret
    exact ⟨rfl, .of (KeptBut.refl _ _) h⟩
  · cases hg : getM n.data.toList s.names with
    | some i =>
      have hR : s.create n.data.toList = (s, 5) := by unfold Dsk.create; rw [if_neg (by rw [ho]; decide), hg]
      rw [hR]
      clear hR
      have hf := Lib.hid (file_some h n hn ho hg)
      replace ho := Lib.hid ho
      replace hg := Lib.hid hg
      replace hn := Lib.hid hn
      go_enter Tryz.func50, Tryz.ntmps50
      go_wp2_with fail
      refine hf.out.mono ?_
      rintro e w' ⟨rfl, rfl⟩
      go_wp2_with fail
      go_ret
      exact ⟨rfl, .of (KeptBut.refl _ _) h⟩
    | none =>
      have hf := Lib.hid (file_none h n hn ho hg)
      have hr := Lib.hid (right_any n)
      replace hn := Lib.hid hn
      cases hb : rightB n.data.toList with
      | false =>
        have hR : s.create n.data.toList = (s, 1) := by unfold Dsk.create; rw [if_neg (by rw [ho]; decide), hg]; exact if_neg (by rw [hb]; decide)
        rw [hR]
        clear hR
        rw [hb] at hr
        replace hb := Lib.hid hb
        replace ho := Lib.hid ho
        replace hg := Lib.hid hg
        go_enter Tryz.func50, Tryz.ntmps50
        go_wp2_with fail
        refine hf.out.mono ?_
        rintro e w' ⟨rfl, rfl⟩
        go_wp2_with fail
        refine (hr.out _).mono ?_
        rintro e w1 ⟨rfl, hb1⟩
        go_wp2_with fail
        go_ret
        exact ⟨rfl, .of (KeptBut.of_below hb1) (h.below hb1)⟩
      | true =>
        have hR : s.create n.data.toList = ({ s with files := s.files ++ [⟨[], 0⟩] } : Dsk).changed ⟨[], n.data.toList, some s.files.length⟩ := by unfold Dsk.create; rw [if_neg (by rw [ho]; decide), hg]; exact if_pos hb
        rw [hR, changed_err]
        clear hR
        rw [hb] at hr
        have hlen := rightB_len hb
        replace hb := Lib.hid hb
        replace ho := Lib.hid ho
        replace hg := Lib.hid hg
        go_enter Tryz.func50, Tryz.ntmps50
        go_wp2_with fail
        refine hf.out.mono ?_
        rintro e w' ⟨rfl, rfl⟩
        go_wp2_with fail
        refine (hr.out _).mono ?_
        rintro e w1 ⟨rfl, hb1⟩
        have h1 := h.below hb1
        have h2 := h1.newFile ok
        have hA : Below w1.heap.size w1 (w1.alloc (.cells #[.slice none 0 0, .int .i64 0] 99)) := (Below.refl _ _).alloc (Nat.le_refl _) _
        have hk := (KeptBut.of_below hb1 (S := F)).then_below hA
        have hcall := changed_any h2 ok.newFile ⟨[], n.data.toList, some s.files.length⟩ (by simp) hlen (by simp) (fun i hi e => by injection hi with hi; subst hi; have := h1.live.2.2.2 _ e; omega) hnl hl
        have hs1 := hb1.size
        unfold chgVal at hcall
        simp only [Option.map_some, ptrV, if_true, bs_of] at hcall
        replace hcall := Lib.hid hcall
        replace hk := Lib.hid hk
        clear h2 h1 hA hlen
        go_wp2_with fail
        refine hcall.out.mono ?_
        rintro e w3 ⟨rfl, hw⟩
        replace hw := Lib.hid hw
        go_wp2_with fail
        go_ret
        exact ⟨rfl, hw.out.pull hk.out (fun k (e : F k ∨ k = w1.heap.size) => e.elim .inl (fun e => .inr ⟨by omega, by simp; omega⟩))⟩
end Go.Proofs.YtdbpfemkjfogoaaGreatDoor
