/- Maps from texts to pointers: as lists in the order of their keys. -/
import Derived.Test.YtkhicfoikkllmaaRows
import Derived.Test.YtkhicfoikkllmaaDskS
import Derived.WalkKit
import Derived.Maps.OwnSet
import Derived.Maps.RangeWalk
import Derived.Maps.Ext
namespace Go.Proofs.Ytkhicfoikkllmaa
open Go.RowKit
set_option linter.unusedVariables false
set_option linter.unusedSimpArgs false

/-- How a pointer reads: as its block's number. -/
def ptrR (v : Value) : Option (DataW Unit × List MemPlace) := match v with
  | .pointer (some ⟨b, 0, none⟩) => some (.lit (.int .u64 (b : Nat)), [])
  | .pointer none => some (.nil, [])
  | _ => none
def ptrV : Option Nat → Value
  | some b => .pointer (some ⟨b, 0, none⟩)
  | none => .pointer none
def lookV : Option Nat → Value
  | some b => .tuple #[.pointer (some ⟨b, 0, none⟩), .bool true]
  | none => .tuple #[.pointer none, .bool false]
theorem ptrR_some {v : Value} {b : Nat} {ps : List MemPlace} (h : ptrR v = some (.lit (.int .u64 (b : Nat)), ps)) : v = .pointer (some ⟨b, 0, none⟩) := by
  unfold ptrR at h
  split at h
  · rename_i b'
    simp at h
    have : b' = b := by have := h.1; omega
    rw [this]
  · simp at h
  · simp at h
theorem ptrR_nil {v : Value} {ps : List MemPlace} (h : ptrR v = some (.nil, ps)) : v = .pointer none := by
  unfold ptrR at h
  split at h <;> simp at h
  rfl
def nmE (p : List UInt8 × Nat) : Lit × DataW Unit := (.string p.1, .lit (.int .u64 (p.2 : Nat)))
def nmD (m : NM) : DataW Unit := .map (m.map nmE)
theorem nm_insert (x : List UInt8 × Nat) : ∀ m : NM, DataW.insert (nmE x) (m.map nmE) = (insM x m).map nmE
  | [] => rfl
  | y :: r => by
    simp only [List.map_cons, DataW.insert, insM]
    have e : (nmE x).1.before (nmE y).1 = bytesBefore x.1 y.1 := rfl
    rw [e]
    split
    · rfl
    · rw [List.map_cons, nm_insert x r]
theorem nmD_del (k : List UInt8) (m : NM) : (nmD m).del (.string k) = nmD (delM k m) := by
  show DataW.map ((m.map nmE).filter fun p => !p.1.sameKey (.string k)) = DataW.map ((delM k m).map nmE)
  rw [List.filter_map]
  rfl
theorem nmD_put (k : List UInt8) (v : Nat) (m : NM) : (nmD m).put (.string k) (.lit (.int .u64 (v : Nat))) = nmD (putM k v m) := by
  have h := nmD_del k m
  unfold nmD DataW.del at h
  unfold nmD DataW.put putM
  simp only [DataW.map.injEq] at h ⊢
  rw [h]
  exact nm_insert (k, v) _
theorem nmD_at (k : List UInt8) (m : NM) (zd : DataW Unit) : (nmD m).atKey (.string k) zd = match getM k m with | some v => .lit (.int .u64 (v : Nat)) | none => zd := by
  unfold nmD DataW.atKey getM
  induction m with
  | nil => rfl
  | cons y r ih =>
    simp only [List.map_cons, List.find?_cons]
    have e : (nmE y).1.sameKey (.string k) = (y.1 == k) := rfl
    rw [e]
    cases y.1 == k
    · exact ih
    · rfl
theorem nmD_has (k : List UInt8) (m : NM) : Maps.has (nmD m) (.string k) = (getM k m).isSome := by
  unfold nmD getM
  rw [Maps.has_eq]
  induction m with
  | nil => rfl
  | cons y r ih =>
    simp only [List.map_cons, List.any_cons, List.find?_cons]
    have e : (nmE y).1.sameKey (.string k) = (y.1 == k) := rfl
    rw [e]
    cases y.1 == k
    · simpa using ih
    · rfl
theorem nmD_size (m : NM) : Maps.size (nmD m) = m.length := by
  unfold nmD
  rw [Maps.size_eq, List.length_map]

def MapAt (P : Program) (k : TypeId) (w : World) (g : Nat) (m : NM) : Prop := w.ownsMap P k ptrR g m.length (nmD m)
section
variable {P : Program} {k e t : TypeId} {w : World} {g : Nat} {m : NM}
theorem MapAt.of {n : Nat} (h : w.ownsMap P k ptrR g n (nmD m)) : MapAt P k w g m := by
  obtain ⟨es, clock, hb, F, _, hD⟩ := h
  refine ⟨es, clock, hb, F, ?_, hD⟩
  have h1 : Maps.size (nmD m) = es.size := by rw [hD]; simp [Maps.size, length_sorted]
  rw [nmD_size] at h1
  omega
theorem MapAt.lt (h : MapAt P k w g m) : g < w.heap.size := World.ownsMap.lt h
theorem MapAt.new (w : World) : MapAt P k (w.alloc (.map #[] 0)) w.heap.size [] := World.ownsMap_made w P k ptrR
theorem MapAt.block {w' : World} (h : MapAt P k w g m) (hb : w'.heap[g]? = w.heap[g]?) : MapAt P k w' g m := by
  obtain ⟨es, clock, h1, F, hs, hD⟩ := h
  exact ⟨es, clock, hb.trans h1, F, hs, hD⟩
theorem nm_key (hk : P.underlying k = some .string) {s : ByteArray} (hs : s.size ≤ maxLen) : keyOf P k (.string s) = some (.string s.data.toList) := by
  simp [keyOf, hk, mapKey, hs]
theorem MapAt.look (h : MapAt P k w g m) (hk : P.underlying k = some .string) (ht : P.underlying t = some (.map k e)) (hz : (zeroValue e).run P w = .ok (.pointer none) w) {s : ByteArray} (hs : s.size ≤ maxLen) :
    (Instr.lookup t (.map (some g)) (.string s) false).run P w = .ok (ptrV (getM s.data.toList m)) w := by
  obtain ⟨v, ps, hrun, hv⟩ := World.ownsMap.lookup h (Maps.string_keyed hk) ht hz (zd := .nil) (zp := []) rfl (nm_key hk hs)
  rw [nmD_at] at hv
  rw [hrun]
  cases hg : getM s.data.toList m with
  | none => rw [hg] at hv; rw [ptrR_nil hv]; rfl
  | some b => rw [hg] at hv; rw [ptrR_some hv]; rfl
theorem MapAt.look_ok (h : MapAt P k w g m) (hk : P.underlying k = some .string) (ht : P.underlying t = some (.map k e)) (hz : (zeroValue e).run P w = .ok (.pointer none) w) {s : ByteArray} (hs : s.size ≤ maxLen) :
    (Instr.lookup t (.map (some g)) (.string s) true).run P w = .ok (lookV (getM s.data.toList m)) w := by
  obtain ⟨v, ps, hrun, hv⟩ := World.ownsMap.look_ok h (Maps.string_keyed hk) ht hz (zd := .nil) (zp := []) rfl (nm_key hk hs)
  rw [nmD_at] at hv
  rw [nmD_has] at hrun
  rw [hrun]
  cases hg : getM s.data.toList m with
  | none => rw [hg] at hv; rw [ptrR_nil hv]; rfl
  | some b => rw [hg] at hv; rw [ptrR_some hv]; rfl
theorem MapAt.store (h : MapAt P k w g m) (hk : P.underlying k = some .string) (ht : P.underlying t = some (.map k e)) (hn : m.length < maxLen) {s : ByteArray} (hs : s.size ≤ maxLen) (b : Nat) :
    ∃ w', (Instr.mapUpdate t (.map (some g)) (.string s) (.pointer (some ⟨b, 0, none⟩))).run P w = .ok () w' ∧ MapAt P k w' g (putM s.data.toList b m) ∧ w.mapTurned w' g := by
  obtain ⟨w', hrun, h1, h2⟩ := World.ownsMap.store h (Maps.string_keyed hk) ht hn (nm_key hk hs) (d := .lit (.int .u64 (b : Nat))) (ps := []) (val := .pointer (some ⟨b, 0, none⟩)) rfl
  rw [nmD_put] at h1
  exact ⟨w', hrun, MapAt.of h1, h2⟩
theorem MapAt.drop (h : MapAt P k w g m) (hk : P.underlying k = some .string) (ht : P.underlying t = some (.map k e)) {s : ByteArray} (hs : s.size ≤ maxLen) (ty : TypeId) :
    ∃ w', (Builtin.delete_ #[t, k] ty #[.map (some g), .string s]).run P w = .ok (.tuple #[]) w' ∧ MapAt P k w' g (delM s.data.toList m) ∧ w.mapTurned w' g := by
  obtain ⟨w', hrun, h1, h2⟩ := World.ownsMap.drop h (Maps.string_keyed hk) ht (nm_key hk hs) ty
  rw [nmD_del] at h1
  exact ⟨w', hrun, MapAt.of h1, h2⟩
end
section
variable {P : Program} (w : World) {ops : Array Oper} {rest : List Oper} {o : Oper} {a : Act} {Q : Exit → Act → World → Prop}
theorem wpList_nm_store (hgd : o.guard = none) (mo x v : Operand) (t : TypeId) (hop : o.op = Op.mapUpdate t mo x v) (k e : TypeId) (hk : P.underlying k = some .string) (ht : P.underlying t = some (.map k e))
    (g : Nat) (m : NM) (hm : a.eval mo = .map (some g)) (h : MapAt P k w g m) (hn : m.length < maxLen) (s : ByteArray) (b : Nat) (hx : a.eval x = .string s) (hv : a.eval v = .pointer (some ⟨b, 0, none⟩)) (hs : s.size ≤ maxLen)
    (hK : ∀ w', MapAt P k w' g (putM s.data.toList b m) → w.mapTurned w' g → wpList P ops Q rest (a.put o.dst undef) w') : wpList P ops Q (o :: rest) a w := by
  refine wpList_plain hgd fun K' hK' => ?_
  obtain ⟨w', hrun, r1, r2⟩ := h.store hk ht hn hs b
  unfold Oper.wp
  simp [execOp, hop, hm, hx, hv, hrun, Result.andThen]
  exact hK' _ _ (hK w' r1 r2)
theorem wpList_nm_delete (hgd : o.guard = none) (mo x : Operand) (t k : TypeId) (hop : o.op = Op.call { callee := Callee.builtin Builtin.delete, args := #[mo, x], argTypes := #[t, k] }) (e : TypeId) (hk : P.underlying k = some .string) (ht : P.underlying t = some (.map k e))
    (g : Nat) (m : NM) (hm : a.eval mo = .map (some g)) (h : MapAt P k w g m) (s : ByteArray) (hx : a.eval x = .string s) (hs : s.size ≤ maxLen)
    (hK : ∀ w', MapAt P k w' g (delM s.data.toList m) → w.mapTurned w' g → wpList P ops Q rest (a.put o.dst (.tuple #[])) w') : wpList P ops Q (o :: rest) a w := by
  refine wpList_plain hgd fun K' hK' => ?_
  obtain ⟨w', hrun, r1, r2⟩ := h.drop hk ht hs o.type
  unfold Oper.wp
  simp [execOp, hop, resolve, invoke, builtin, hm, hx, hrun, Result.andThen]
  exact hK' _ _ (hK w' r1 r2)
end
end Go.Proofs.Ytkhicfoikkllmaa
