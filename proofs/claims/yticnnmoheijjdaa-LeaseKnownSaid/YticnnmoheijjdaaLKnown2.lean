/- LeaseKnown returns true. -/
import Derived.Test.YticnnmoheijjdaaL4
import Derived.Test.YticnnmoheijjdaaK
import Derived.Test.YticnnmoheijjdaaQ
import Derived.Test.YticnnmoheijjdaaT
import Derived.Deep.RegionHeld3
import Derived.Deep.RegionWith
import Derived.Lib.Hide
namespace Go.Proofs.Yticnnmoheijjdaa
open Go.RowKit Go.ChangeShapes Go.WideShapes Go.ChangeAt Go.Joins
set_option linter.unusedVariables false
set_option linter.unusedSimpArgs false

theorem take_v (r : LR) (o : ByteArray) (u : Int) (had : Bool) (now : Int) (owner : ByteArray) (d : Int) (h : takeL u had now owner d = r) (w : World) (h1 : 0 ≤ now) (h2 : now ≤ 18446744073709551615) (h3 : 0 ≤ d) (h4 : d ≤ 18446744073709551615) :
    Calls Try.prog 11 #[.agg #[.string o, .int .u64 u], .bool had, .int .u64 now, .string owner, .int .u64 d] w fun e w' => e = .returned (RV r) ∧ Below w.heap.size w w' := h ▸ Take_any o u had now owner d w h1 h2 h3 h4
theorem renew_v (r : LR) (o : ByteArray) (u : Int) (had : Bool) (now : Int) (owner : ByteArray) (d : Int) (h : renewL o u had now owner d = r) (w : World) (h1 : 0 ≤ now) (h2 : now ≤ 18446744073709551615) (h3 : 0 ≤ d) (h4 : d ≤ 18446744073709551615) :
    Calls Try.prog 12 #[.agg #[.string o, .int .u64 u], .bool had, .int .u64 now, .string owner, .int .u64 d] w fun e w' => e = .returned (RV r) ∧ Below w.heap.size w w' := h ▸ Renew_any o u had now owner d w h1 h2 h3 h4
theorem release_v (r : LR) (o : ByteArray) (u : Int) (had : Bool) (now : Int) (owner : ByteArray) (h : releaseL o u had now owner = r) (w : World) :
    Calls Try.prog 13 #[.agg #[.string o, .int .u64 u], .bool had, .int .u64 now, .string owner] w fun e w' => e = .returned (RV r) ∧ Below w.heap.size w w' := h ▸ Release_any o u had now owner w
theorem move_v (r : LR) (o : ByteArray) (u : Int) (had : Bool) (now : Int) (owner dst : ByteArray) (h : moveL o u had now owner dst = r) (w : World) :
    Calls Try.prog 14 #[.agg #[.string o, .int .u64 u], .bool had, .int .u64 now, .string owner, .string dst] w fun e w' => e = .returned (RV r) ∧ Below w.heap.size w w' := h ▸ Move_any o u had now owner dst w
theorem plus_v (a b r : Int) (h : plusI a b = r) (w : World) (ha : 0 ≤ a) (ha' : a ≤ 18446744073709551615) (hb : 0 ≤ b) (hb' : b ≤ 18446744073709551615) :
    Calls Try.prog 8 #[.int .u64 a, .int .u64 b] w fun e w' => e = .returned (.int .u64 r) ∧ w = w' := h ▸ Plus_any a b w ha ha' hb hb'

def z33 : Array Value := madeCells (Value.int .u8 0).cells 33
def s33 : ByteArray := strOfNums (List.replicate 33 0)
theorem z33_cell (i : Nat) (h : i < 33) : z33[i]? = some (.int .u8 0) := by
  unfold z33 madeCells
  simp [Value.cells, h, Nat.mod_one]
theorem mk33 (w : World) : (Instr.makeSlice 36 (.int .i64 33) (.int .i64 33)).run Try.prog w = .ok (.slice (some ⟨w.heap.size, 0, none⟩) 33 33) (w.alloc (.cells z33 5)) := by
  obtain ⟨i0, hi, hz0, hz1, hz2⟩ := info_parts (show (Try.prog.info? 5).map (fun i => (i.zero, i.size, i.bytes)) = some (some (.int .u8 0), 1, 1) by kernel_rfl)
  have h := run_make (P := Try.prog) w 36 5 i0 (.int .u8 0) Try.underlying36 hi hz0 .i64 .i64 33 33 (by omega) (by omega) (by rw [hz2]; decide) (by omega)
  rw [hz1] at h
  exact h
theorem cv33 (w : World) (x y : Obj) : (convert 36 9 (.slice (some ⟨w.heap.size + 1 + 1, 0, none⟩) 33 33)).run Try.prog (((w.alloc x).alloc y).alloc (.cells z33 5)).drew = .ok (.string s33) (((w.alloc x).alloc y).alloc (.cells z33 5)).drew := by
  refine run_convert_bytes_arg (P := Try.prog) _ 36 5 Try.underlying36 Try.underlying5 (w.heap.size + 1 + 1) 0 33 33 (List.replicate 33 0) (by simp) (fun i hi => ?_) 9 Try.underlying9
  have h := World.cell?_alloc_new ((w.alloc x).alloc y) z33 5 i
  simp only [World.size_alloc] at h
  have e : (List.replicate 33 (0 : Int)).getD i 0 = 0 := by rw [List.getD_eq_getElem?_getD, List.getElem?_replicate]; split <;> rfl
  rw [e, Nat.zero_add, World.cell?_drew, h, z33_cell i hi]

theorem cv33' (w : World) (b : Nat) (hb : w.heap[b]? = some (Obj.cells z33 5 (0, 0))) : (convert 36 9 (.slice (some ⟨b, 0, none⟩) 33 33)).run Try.prog w = .ok (.string s33) w := by
  refine run_convert_bytes_arg (P := Try.prog) _ 36 5 Try.underlying36 Try.underlying5 b 0 33 33 (List.replicate 33 0) (by simp) (fun i hi => ?_) 9 Try.underlying9
  have e : (List.replicate 33 (0 : Int)).getD i 0 = 0 := by rw [List.getD_eq_getElem?_getD, List.getElem?_replicate]; split <;> rfl
  rw [e, Nat.zero_add]
  simp [World.cell?, hb, z33_cell i hi]

/-- What the region's operations keep: old blocks (those below B) and rows of bytes as they are; every block's kind and size. -/
structure Kp (B : Nat) (w w' : World) : Prop where
  low : Below B w w'
  bytes : ∀ (b : Nat) (c : Array Value) (f : Nat × Nat), w.heap[b]? = some (Obj.cells c 5 f) → w'.heap[b]? = some (Obj.cells c 5 f)
  kind : ∀ (b : Nat) (c : Array Value) (t : TypeId) (f : Nat × Nat), w.heap[b]? = some (Obj.cells c t f) → ∃ c' : Array Value, w'.heap[b]? = some (Obj.cells c' t f) ∧ c'.size = c.size
theorem Kp.refl (B : Nat) (w : World) : Kp B w w := ⟨Below.refl _ _, fun _ _ _ h => h, fun _ c _ _ h => ⟨c, h, rfl⟩⟩
theorem Kp.trans {B : Nat} {a b c : World} (h : Kp B a b) (k : Kp B b c) : Kp B a c :=
  ⟨h.low.trans k.low, fun x y f hx => k.bytes _ _ _ (h.bytes _ _ _ hx), fun x y t f hx => by
    obtain ⟨c1, h1, s1⟩ := h.kind _ _ _ _ hx
    obtain ⟨c2, h2, s2⟩ := k.kind _ _ _ _ h1
    exact ⟨c2, h2, s2.trans s1⟩⟩
theorem Kp.of_below {B : Nat} {w w' : World} (h : Below w.heap.size w w') (hB : B ≤ w.heap.size) : Kp B w w' :=
  ⟨h.mono hB, fun b c f hx => by
    rw [h.block b (by
      rcases Nat.lt_or_ge b w.heap.size with h1 | h1
      · exact h1
      · rw [Array.getElem?_eq_none h1] at hx; cases hx)]
    exact hx, fun b c t f hx => ⟨c, by
    rw [h.block b (by
      rcases Nat.lt_or_ge b w.heap.size with h1 | h1
      · exact h1
      · rw [Array.getElem?_eq_none h1] at hx; cases hx)]
    exact hx, rfl⟩⟩
theorem Kp.alloc {B : Nat} {w : World} (hB : B ≤ w.heap.size) (o : Obj) : Kp B w (w.alloc o) := Kp.of_below ((Below.refl _ _).alloc (Nat.le_refl _) o) hB
theorem Kp.setCell {B : Nat} {w : World} {b o t : Nat} {c : Array Value} {f : Nat × Nat} (hB : B ≤ b) (h : w.heap[b]? = some (.cells c t f)) (ht : t ≠ 5) (v : Value) : Kp B w (w.setCell ⟨b, o, none⟩ v) := by
  have hat : (w.setCell ⟨b, o, none⟩ v).heap[b]? = some (.cells (c.setIfInBounds o v) t f) := by
    simp [World.setCell, Array.getElem?_modify, h]
  refine ⟨(Below.refl _ _).setCell hB v, fun x y g hx => ?_, fun x y g e hx => ?_⟩
  · rw [Below.heap_setCell _ _ _ _ (by rintro rfl; rw [h] at hx; simp at hx; exact ht hx.2.1)]
    exact hx
  · by_cases hxb : x = b
    · subst hxb
      rw [h] at hx
      simp at hx
      obtain ⟨rfl, rfl, rfl⟩ := hx
      exact ⟨_, hat, by simp⟩
    · rw [Below.heap_setCell _ _ _ _ hxb]
      exact ⟨y, hx, rfl⟩

theorem Kp.old {w0 wx : World} {x y : Obj} (h : Kp (w0.heap.size + 1 + 1) ((w0.alloc x).alloc y) wx) (b o : Nat) (v : Value) (hb : b < w0.heap.size) (hc : w0.cell? ⟨b, o, none⟩ = some v) : wx.cell? ⟨b, o, none⟩ = some v := by
  have e := h.low.cell (p := ⟨b, o, none⟩) (by simp; omega)
  rw [e]
  have h1 : b < (w0.alloc x).heap.size := by simp; omega
  simp [go_sem, h1, hb, hc]
theorem Kp.sz {w0 wx : World} {x y : Obj} (h : Kp (w0.heap.size + 1 + 1) ((w0.alloc x).alloc y) wx) : w0.heap.size + 1 + 1 ≤ wx.heap.size := by have := h.low.size; simp at this; omega

theorem at_new (w : World) (o : Obj) : (w.alloc o).heap[w.heap.size]? = some o := by
  show (w.heap.push o)[w.heap.size]? = some o
  simp
theorem at_cell {w : World} {b t : Nat} {c : Array Value} (h : w.heap[b]? = some (Obj.cells c t (0, 0))) (o : Nat) : w.cell? ⟨b, o, none⟩ = c[o]? := by simp [World.cell?, h]
theorem at_frozen {w : World} {b t : Nat} {c : Array Value} (h : w.heap[b]? = some (Obj.cells c t (0, 0))) (o : Nat) : w.frozen? ⟨b, o, none⟩ = false := by simp [World.frozen?, h]
theorem at_set {w : World} {b t : Nat} {c : Array Value} {f : Nat × Nat} (h : w.heap[b]? = some (Obj.cells c t f)) (o : Nat) (v : Value) : (w.setCell ⟨b, o, none⟩ v).heap[b]? = some (.cells (c.setIfInBounds o v) t f) := by
  simp [World.setCell, Array.getElem?_modify, h]
theorem arr2 {c : Array Value} (h : c.size = 2) : ∃ a b, c = #[a, b] := by
  obtain ⟨l⟩ := c
  match l, h with
  | [a, b], _ => exact ⟨a, b, rfl⟩
theorem arr4 {c : Array Value} (h : c.size = 4) : ∃ a b d e, c = #[a, b, d, e] := by
  obtain ⟨l⟩ := c
  match l, h with
  | [a, b, d, e], _ => exact ⟨a, b, d, e, rfl⟩

/-- A pointer to a box of this kind, made in the region. -/
def BoxAt (B t n : Nat) (v : Value) (w : World) : Prop := ∃ (b : Nat) (c : Array Value), v = .pointer (some ⟨b, 0, none⟩) ∧ B ≤ b ∧ w.heap[b]? = some (Obj.cells c t (0, 0)) ∧ c.size = n
def MadeAt (B : Nat) (v : Value) (w : World) : Prop := ∃ b : Nat, v = .slice (some ⟨b, 0, none⟩) 33 33 ∧ B ≤ b ∧ w.heap[b]? = some (Obj.cells z33 5 (0, 0))
def kTau (B : Nat) (L E : Value) : Nat → Value → World → Prop
  | 0, v, _ => v = .agg #[.string ⟨#[97]⟩, .int .u64 15]
  | 1, v, w => MadeAt B v w
  | 2, v, _ => v = .string s33
  | 3, v, _ => v = .tuple #[L, E, .int .i64 1]
  | 4, v, _ => v = .tuple #[L, E, .int .i64 1]
  | 5, v, _ => v = L
  | 6, v, _ => v = E
  | 7, v, _ => v = .int .i64 1
  | 8, v, w => BoxAt B 24 2 v w
  | 9, v, w => BoxAt B 30 4 v w
  | 12, v, _ => v = .int .i64 1
  | _, _, _ => True
theorem kTau_mono {B : Nat} {L E : Value} (k : Nat) (v : Value) (w w' : World) (h : kTau B L E k v w) (r : Kp B w w') : kTau B L E k v w' := by
  unfold kTau at *
  split at h <;> first | exact h | skip
  · obtain ⟨b, e, hb, hh⟩ := h
    exact ⟨b, e, hb, r.bytes _ _ _ hh⟩
  · obtain ⟨b, c, e, hb, hh, hs⟩ := h
    obtain ⟨c', h1, h2⟩ := r.kind _ _ _ _ hh
    exact ⟨b, c', e, hb, h1, h2.trans hs⟩
  · obtain ⟨b, c, e, hb, hh, hs⟩ := h
    obtain ⟨c', h1, h2⟩ := r.kind _ _ _ _ hh
    exact ⟨b, c', e, hb, h1, h2.trans hs⟩

set_option maxRecDepth 100000 in
set_option maxHeartbeats 8000000 in
theorem known_walk (w : World) :
    Calls Try.prog 4 #[] w fun e w' => e = .returned (.bool true) ∧ Below w.heap.size w w' := by
  have hmk := mk33
  go_enter Try.func4, Try.ntmps4
  go_wp2_with fail
  go_at_call 11
  refine (take_v ⟨⟨#[]⟩, 0, 0, ⟨#[]⟩, 0, 0, 22⟩ ⟨#[97]⟩ 15 true 14 ⟨#[98]⟩ 1 (by kernel_rfl) _ (by omega) (by omega) (by omega) (by omega)).mono ?_
  rintro e w1 ⟨rfl, hb1⟩
  obtain ⟨hc1, hf1⟩ := bcell hb1
  have z1 := hb1.size
  try simp at z1
  have z1_0 : w.heap.size < w1.heap.size := (by first | omega | (simp at z1; omega))
  have c1_0 := fun o => hc1 (w.heap.size) o (by first | omega | (simp; done) | (simp; omega))
  have d1_0 := fun o => hf1 (w.heap.size) o (by first | omega | (simp; done) | (simp; omega))
  clear hc1 hf1
  go_wp2_with fail
  go_at_call 11
  refine (take_v ⟨⟨#[98]⟩, 16, 1, ⟨#[98]⟩, 15, 16, 0⟩ ⟨#[97]⟩ 15 true 15 ⟨#[98]⟩ 1 (by kernel_rfl) _ (by omega) (by omega) (by omega) (by omega)).mono ?_
  rintro e w2 ⟨rfl, hb2⟩
  obtain ⟨hc2, hf2⟩ := bcell hb2
  have z2 := hb2.size
  try simp at z2
  have z2_0 : w.heap.size < w2.heap.size := (by first | omega | (simp at z2; omega))
  have c2_0 := fun o => hc2 (w.heap.size) o (by first | omega | (simp; done) | (simp; omega))
  have d2_0 := fun o => hf2 (w.heap.size) o (by first | omega | (simp; done) | (simp; omega))
  clear hc2 hf2
  go_wp2_with fail
  go_at_call 12
  refine (renew_v ⟨⟨#[97]⟩, 8, 2, ⟨#[97]⟩, 7, 8, 0⟩ ⟨#[97]⟩ 15 true 7 ⟨#[97]⟩ 1 (by kernel_rfl) _ (by omega) (by omega) (by omega) (by omega)).mono ?_
  rintro e w3 ⟨rfl, hb3⟩
  obtain ⟨hc3, hf3⟩ := bcell hb3
  have z3 := hb3.size
  try simp at z3
  have z3_0 : w.heap.size < w3.heap.size := (by first | omega | (simp at z3; omega))
  have c3_0 := fun o => hc3 (w.heap.size) o (by first | omega | (simp; done) | (simp; omega))
  have d3_0 := fun o => hf3 (w.heap.size) o (by first | omega | (simp; done) | (simp; omega))
  have z3_1 : w2.heap.size < w3.heap.size := (by first | omega | (simp at z3; omega))
  have c3_1 := fun o => hc3 (w2.heap.size) o (by first | omega | (simp; done) | (simp; omega))
  have d3_1 := fun o => hf3 (w2.heap.size) o (by first | omega | (simp; done) | (simp; omega))
  clear hc3 hf3
  go_wp2_with fail
  go_at_call 12
  refine (renew_v ⟨⟨#[]⟩, 0, 0, ⟨#[]⟩, 0, 0, 24⟩ ⟨#[97]⟩ 15 true 7 ⟨#[98]⟩ 1 (by kernel_rfl) _ (by omega) (by omega) (by omega) (by omega)).mono ?_
  rintro e w4 ⟨rfl, hb4⟩
  obtain ⟨hc4, hf4⟩ := bcell hb4
  have z4 := hb4.size
  try simp at z4
  have z4_0 : w.heap.size < w4.heap.size := (by first | omega | (simp at z4; omega))
  have c4_0 := fun o => hc4 (w.heap.size) o (by first | omega | (simp; done) | (simp; omega))
  have d4_0 := fun o => hf4 (w.heap.size) o (by first | omega | (simp; done) | (simp; omega))
  have z4_1 : w2.heap.size < w4.heap.size := (by first | omega | (simp at z4; omega))
  have c4_1 := fun o => hc4 (w2.heap.size) o (by first | omega | (simp; done) | (simp; omega))
  have d4_1 := fun o => hf4 (w2.heap.size) o (by first | omega | (simp; done) | (simp; omega))
  have z4_2 : w3.heap.size < w4.heap.size := (by first | omega | (simp at z4; omega))
  have c4_2 := fun o => hc4 (w3.heap.size) o (by first | omega | (simp; done) | (simp; omega))
  have d4_2 := fun o => hf4 (w3.heap.size) o (by first | omega | (simp; done) | (simp; omega))
  have z4_3 : w3.heap.size + 1 < w4.heap.size := (by first | omega | (simp at z4; omega))
  have c4_3 := fun o => hc4 (w3.heap.size + 1) o (by first | omega | (simp; done) | (simp; omega))
  have d4_3 := fun o => hf4 (w3.heap.size + 1) o (by first | omega | (simp; done) | (simp; omega))
  clear hc4 hf4
  go_wp2_with fail
  go_at_call 12
  refine (renew_v ⟨⟨#[]⟩, 0, 0, ⟨#[]⟩, 0, 0, 23⟩ ⟨#[97]⟩ 15 true 15 ⟨#[97]⟩ 1 (by kernel_rfl) _ (by omega) (by omega) (by omega) (by omega)).mono ?_
  rintro e w5 ⟨rfl, hb5⟩
  obtain ⟨hc5, hf5⟩ := bcell hb5
  have z5 := hb5.size
  try simp at z5
  have z5_0 : w.heap.size < w5.heap.size := (by first | omega | (simp at z5; omega))
  have c5_0 := fun o => hc5 (w.heap.size) o (by first | omega | (simp; done) | (simp; omega))
  have d5_0 := fun o => hf5 (w.heap.size) o (by first | omega | (simp; done) | (simp; omega))
  have z5_1 : w2.heap.size < w5.heap.size := (by first | omega | (simp at z5; omega))
  have c5_1 := fun o => hc5 (w2.heap.size) o (by first | omega | (simp; done) | (simp; omega))
  have d5_1 := fun o => hf5 (w2.heap.size) o (by first | omega | (simp; done) | (simp; omega))
  have z5_2 : w3.heap.size < w5.heap.size := (by first | omega | (simp at z5; omega))
  have c5_2 := fun o => hc5 (w3.heap.size) o (by first | omega | (simp; done) | (simp; omega))
  have d5_2 := fun o => hf5 (w3.heap.size) o (by first | omega | (simp; done) | (simp; omega))
  have z5_3 : w3.heap.size + 1 < w5.heap.size := (by first | omega | (simp at z5; omega))
  have c5_3 := fun o => hc5 (w3.heap.size + 1) o (by first | omega | (simp; done) | (simp; omega))
  have d5_3 := fun o => hf5 (w3.heap.size + 1) o (by first | omega | (simp; done) | (simp; omega))
  clear hc5 hf5
  go_wp2_with fail
  go_at_call 12
  refine (renew_v ⟨⟨#[]⟩, 0, 0, ⟨#[]⟩, 0, 0, 23⟩ ⟨#[97]⟩ 15 false 7 ⟨#[97]⟩ 1 (by kernel_rfl) _ (by omega) (by omega) (by omega) (by omega)).mono ?_
  rintro e w6 ⟨rfl, hb6⟩
  obtain ⟨hc6, hf6⟩ := bcell hb6
  have z6 := hb6.size
  try simp at z6
  have z6_0 : w.heap.size < w6.heap.size := (by first | omega | (simp at z6; omega))
  have c6_0 := fun o => hc6 (w.heap.size) o (by first | omega | (simp; done) | (simp; omega))
  have d6_0 := fun o => hf6 (w.heap.size) o (by first | omega | (simp; done) | (simp; omega))
  have z6_1 : w2.heap.size < w6.heap.size := (by first | omega | (simp at z6; omega))
  have c6_1 := fun o => hc6 (w2.heap.size) o (by first | omega | (simp; done) | (simp; omega))
  have d6_1 := fun o => hf6 (w2.heap.size) o (by first | omega | (simp; done) | (simp; omega))
  have z6_2 : w3.heap.size < w6.heap.size := (by first | omega | (simp at z6; omega))
  have c6_2 := fun o => hc6 (w3.heap.size) o (by first | omega | (simp; done) | (simp; omega))
  have d6_2 := fun o => hf6 (w3.heap.size) o (by first | omega | (simp; done) | (simp; omega))
  have z6_3 : w3.heap.size + 1 < w6.heap.size := (by first | omega | (simp at z6; omega))
  have c6_3 := fun o => hc6 (w3.heap.size + 1) o (by first | omega | (simp; done) | (simp; omega))
  have d6_3 := fun o => hf6 (w3.heap.size + 1) o (by first | omega | (simp; done) | (simp; omega))
  clear hc6 hf6
  go_wp2_with fail
  go_at_call 13
  refine (release_v ⟨⟨#[]⟩, 0, 3, ⟨#[97]⟩, 7, 7, 0⟩ ⟨#[97]⟩ 15 true 7 ⟨#[97]⟩ (by kernel_rfl) _).mono ?_
  rintro e w7 ⟨rfl, hb7⟩
  obtain ⟨hc7, hf7⟩ := bcell hb7
  have z7 := hb7.size
  try simp at z7
  have z7_0 : w.heap.size < w7.heap.size := (by first | omega | (simp at z7; omega))
  have c7_0 := fun o => hc7 (w.heap.size) o (by first | omega | (simp; done) | (simp; omega))
  have d7_0 := fun o => hf7 (w.heap.size) o (by first | omega | (simp; done) | (simp; omega))
  have z7_1 : w2.heap.size < w7.heap.size := (by first | omega | (simp at z7; omega))
  have c7_1 := fun o => hc7 (w2.heap.size) o (by first | omega | (simp; done) | (simp; omega))
  have d7_1 := fun o => hf7 (w2.heap.size) o (by first | omega | (simp; done) | (simp; omega))
  have z7_2 : w3.heap.size < w7.heap.size := (by first | omega | (simp at z7; omega))
  have c7_2 := fun o => hc7 (w3.heap.size) o (by first | omega | (simp; done) | (simp; omega))
  have d7_2 := fun o => hf7 (w3.heap.size) o (by first | omega | (simp; done) | (simp; omega))
  have z7_3 : w3.heap.size + 1 < w7.heap.size := (by first | omega | (simp at z7; omega))
  have c7_3 := fun o => hc7 (w3.heap.size + 1) o (by first | omega | (simp; done) | (simp; omega))
  have d7_3 := fun o => hf7 (w3.heap.size + 1) o (by first | omega | (simp; done) | (simp; omega))
  clear hc7 hf7
  go_wp2_with fail
  go_at_call 14
  refine (move_v ⟨⟨#[]⟩, 0, 0, ⟨#[]⟩, 0, 0, 1⟩ ⟨#[97]⟩ 15 true 7 ⟨#[97]⟩ ⟨#[]⟩ (by kernel_rfl) _).mono ?_
  rintro e w8 ⟨rfl, hb8⟩
  obtain ⟨hc8, hf8⟩ := bcell hb8
  have z8 := hb8.size
  try simp at z8
  have z8_0 : w.heap.size < w8.heap.size := (by first | omega | (simp at z8; omega))
  have c8_0 := fun o => hc8 (w.heap.size) o (by first | omega | (simp; done) | (simp; omega))
  have d8_0 := fun o => hf8 (w.heap.size) o (by first | omega | (simp; done) | (simp; omega))
  have z8_1 : w2.heap.size < w8.heap.size := (by first | omega | (simp at z8; omega))
  have c8_1 := fun o => hc8 (w2.heap.size) o (by first | omega | (simp; done) | (simp; omega))
  have d8_1 := fun o => hf8 (w2.heap.size) o (by first | omega | (simp; done) | (simp; omega))
  have z8_2 : w3.heap.size < w8.heap.size := (by first | omega | (simp at z8; omega))
  have c8_2 := fun o => hc8 (w3.heap.size) o (by first | omega | (simp; done) | (simp; omega))
  have d8_2 := fun o => hf8 (w3.heap.size) o (by first | omega | (simp; done) | (simp; omega))
  have z8_3 : w3.heap.size + 1 < w8.heap.size := (by first | omega | (simp at z8; omega))
  have c8_3 := fun o => hc8 (w3.heap.size + 1) o (by first | omega | (simp; done) | (simp; omega))
  have d8_3 := fun o => hf8 (w3.heap.size + 1) o (by first | omega | (simp; done) | (simp; omega))
  have z8_4 : w7.heap.size < w8.heap.size := (by first | omega | (simp at z8; omega))
  have c8_4 := fun o => hc8 (w7.heap.size) o (by first | omega | (simp; done) | (simp; omega))
  have d8_4 := fun o => hf8 (w7.heap.size) o (by first | omega | (simp; done) | (simp; omega))
  have z8_5 : w7.heap.size + 1 < w8.heap.size := (by first | omega | (simp at z8; omega))
  have c8_5 := fun o => hc8 (w7.heap.size + 1) o (by first | omega | (simp; done) | (simp; omega))
  have d8_5 := fun o => hf8 (w7.heap.size + 1) o (by first | omega | (simp; done) | (simp; omega))
  clear hc8 hf8
  go_wp2_with fail
  go_at_call 11
  refine (take_v ⟨⟨#[]⟩, 0, 0, ⟨#[]⟩, 0, 0, 1⟩ ⟨#[97]⟩ 15 false 7 ⟨#[97]⟩ 0 (by kernel_rfl) _ (by omega) (by omega) (by omega) (by omega)).mono ?_
  rintro e w9 ⟨rfl, hb9⟩
  obtain ⟨hc9, hf9⟩ := bcell hb9
  have z9 := hb9.size
  try simp at z9
  have z9_0 : w.heap.size < w9.heap.size := (by first | omega | (simp at z9; omega))
  have c9_0 := fun o => hc9 (w.heap.size) o (by first | omega | (simp; done) | (simp; omega))
  have d9_0 := fun o => hf9 (w.heap.size) o (by first | omega | (simp; done) | (simp; omega))
  have z9_1 : w2.heap.size < w9.heap.size := (by first | omega | (simp at z9; omega))
  have c9_1 := fun o => hc9 (w2.heap.size) o (by first | omega | (simp; done) | (simp; omega))
  have d9_1 := fun o => hf9 (w2.heap.size) o (by first | omega | (simp; done) | (simp; omega))
  have z9_2 : w3.heap.size < w9.heap.size := (by first | omega | (simp at z9; omega))
  have c9_2 := fun o => hc9 (w3.heap.size) o (by first | omega | (simp; done) | (simp; omega))
  have d9_2 := fun o => hf9 (w3.heap.size) o (by first | omega | (simp; done) | (simp; omega))
  have z9_3 : w3.heap.size + 1 < w9.heap.size := (by first | omega | (simp at z9; omega))
  have c9_3 := fun o => hc9 (w3.heap.size + 1) o (by first | omega | (simp; done) | (simp; omega))
  have d9_3 := fun o => hf9 (w3.heap.size + 1) o (by first | omega | (simp; done) | (simp; omega))
  have z9_4 : w7.heap.size < w9.heap.size := (by first | omega | (simp at z9; omega))
  have c9_4 := fun o => hc9 (w7.heap.size) o (by first | omega | (simp; done) | (simp; omega))
  have d9_4 := fun o => hf9 (w7.heap.size) o (by first | omega | (simp; done) | (simp; omega))
  have z9_5 : w7.heap.size + 1 < w9.heap.size := (by first | omega | (simp at z9; omega))
  have c9_5 := fun o => hc9 (w7.heap.size + 1) o (by first | omega | (simp; done) | (simp; omega))
  have d9_5 := fun o => hf9 (w7.heap.size + 1) o (by first | omega | (simp; done) | (simp; omega))
  clear hc9 hf9
  go_wp2_with fail
  have z9' := z9
  have y0 : w9.cell? ⟨w.heap.size, 0, none⟩ = some (.string ⟨#[97]⟩) := by simp [go_sem, *]
  have y1 : w9.cell? ⟨w.heap.size, 1, none⟩ = some (.int .u64 15) := by simp [go_sem, *]
  have y10 : w9.cell? ⟨w2.heap.size, 0, none⟩ = some (.string ⟨#[98]⟩) := by simp [go_sem, *]
  have y11 : w9.cell? ⟨w2.heap.size, 1, none⟩ = some (.int .u64 16) := by simp [go_sem, *]
  have y20 : w9.cell? ⟨w3.heap.size, 0, none⟩ = some (.string ⟨#[97]⟩) := by simp [go_sem, *]
  have y21 : w9.cell? ⟨w3.heap.size, 1, none⟩ = some (.int .u64 8) := by simp [go_sem, *]
  have y30 : w9.cell? ⟨w3.heap.size + 1, 0, none⟩ = some (.int .i64 2) := by simp [go_sem, *]
  have y31 : w9.cell? ⟨w3.heap.size + 1, 1, none⟩ = some (.string ⟨#[97]⟩) := by simp [go_sem, *]
  have y32 : w9.cell? ⟨w3.heap.size + 1, 2, none⟩ = some (.int .u64 7) := by simp [go_sem, *]
  have y33 : w9.cell? ⟨w3.heap.size + 1, 3, none⟩ = some (.int .u64 8) := by simp [go_sem, *]
  have y40 : w9.cell? ⟨w7.heap.size, 0, none⟩ = some (.string ⟨#[]⟩) := by simp [go_sem, *]
  have y41 : w9.cell? ⟨w7.heap.size, 1, none⟩ = some (.int .u64 0) := by simp [go_sem, *]
  have y50 : w9.cell? ⟨w7.heap.size + 1, 0, none⟩ = some (.int .i64 3) := by simp [go_sem, *]
  have y51 : w9.cell? ⟨w7.heap.size + 1, 1, none⟩ = some (.string ⟨#[97]⟩) := by simp [go_sem, *]
  have y52 : w9.cell? ⟨w7.heap.size + 1, 2, none⟩ = some (.int .u64 7) := by simp [go_sem, *]
  have y53 : w9.cell? ⟨w7.heap.size + 1, 3, none⟩ = some (.int .u64 7) := by simp [go_sem, *]
  refine wp_region_ops (Kp (w9.heap.size + 1 + 1)) (kTau (w9.heap.size + 1 + 1) (.agg #[.string ⟨#[]⟩, .int .u64 0]) (.agg #[.int .i64 0, .string ⟨#[]⟩, .int .u64 0, .int .u64 0])) (fun _ => undef) ?m1 ?m2 ?m3 ?m4 (Kp.refl _) (fun _ _ _ h k => h.trans k) ?m5 kTau_mono ?m6 ?m7
  case m1 => kernel_rfl
  case m2 => kernel_rfl
  case m3 => kernel_rfl
  case m4 => exact ⟨(Below.refl _ _).drew, fun _ _ _ h => h, fun _ c _ _ h => ⟨c, h, rfl⟩⟩
  case m5 => kernel_rfl
  case m6 =>
    refine ⟨?o0, ?o1, ?o2, ?o3, ?o4, ?o5, ?o6, ?o7, ?o8, ?o9, ?o10, ?o11, ?o12, trivial⟩
    case o0 =>
      intro us wx hR hp
      have hsz : w9.heap.size + 1 + 1 ≤ wx.heap.size := hR.sz
      have e0 : wx.cell? ⟨w.heap.size, 0, none⟩ = some (.string ⟨#[97]⟩) := hR.old _ _ _ z9_0 y0
      have e1 : wx.cell? ⟨w.heap.size, 1, none⟩ = some (.int .u64 15) := hR.old _ _ _ z9_0 y1
      refine .inl ⟨by kernel_rfl, fun K Q hK => ?_⟩
      simp only [putAll, Act.put] at hK ⊢
      go_simp
      refine Eq.mp ?_ (hK (.agg #[.string ⟨#[97]⟩, .int .u64 15]) _ (Kp.refl _ _) rfl)
      kernel_rfl
    case o1 =>
      intro us wx hR hp
      have hsz : w9.heap.size + 1 + 1 ≤ wx.heap.size := hR.sz
      refine .inl ⟨by kernel_rfl, fun K Q hK => ?_⟩
      simp only [putAll, Act.put] at hK ⊢
      go_simp
      refine Eq.mp ?_ (hK (.slice (some ⟨wx.heap.size, 0, none⟩) 33 33) _ (Kp.alloc hsz _) ⟨_, rfl, hsz, at_new _ _⟩)
      kernel_rfl
    case o2 =>
      intro us wx hR hp
      have hsz : w9.heap.size + 1 + 1 ≤ wx.heap.size := hR.sz
      obtain ⟨b, eb, hb, hc⟩ := hp 1 (by simp [Region.binds])
      have hcv := cv33' wx b hc
      refine .inl ⟨by kernel_rfl, fun K Q hK => ?_⟩
      simp only [putAll, Act.put, Nat.reduceAdd, eb] at hK ⊢
      go_simp
      refine Eq.mp ?_ (hK (.string s33) _ (Kp.refl _ _) rfl)
      kernel_rfl
    case o3 =>
      intro us wx hR hp
      have hsz : w9.heap.size + 1 + 1 ≤ wx.heap.size := hR.sz
      have u0 : us 0 = _ := hp 0 (by simp [Region.binds])
      have u2 : us 2 = _ := hp 2 (by simp [Region.binds])
      refine .inl ⟨by kernel_rfl, fun K Q hK => ?_⟩
      simp only [putAll, Act.put, Nat.reduceAdd, u0, u2] at hK ⊢
      go_simp
      (go_at_call 11; refine (take_v ⟨⟨#[]⟩, 0, 0, ⟨#[]⟩, 0, 0, 1⟩ ⟨#[97]⟩ 15 false 7 s33 1 (by kernel_rfl) _ (by omega) (by omega) (by omega) (by omega)).mono ?_; rintro e w' ⟨rfl, hb⟩; obtain ⟨hc, hf⟩ := bcell hb; have hz := hb.size; clear hc hf)
      refine Eq.mp ?_ (hK (RV ⟨⟨#[]⟩, 0, 0, ⟨#[]⟩, 0, 0, 1⟩) _ (Kp.of_below hb hsz) rfl)
      kernel_rfl
    case o4 =>
      intro us wx hR hp
      have hsz : w9.heap.size + 1 + 1 ≤ wx.heap.size := hR.sz
      have u3 : us 3 = _ := hp 3 (by simp [Region.binds])
      refine .inl ⟨by kernel_rfl, fun K Q hK => ?_⟩
      simp only [putAll, Act.put, Nat.reduceAdd, u3] at hK ⊢
      go_simp
      refine Eq.mp ?_ (hK (RV ⟨⟨#[]⟩, 0, 0, ⟨#[]⟩, 0, 0, 1⟩) _ (Kp.refl _ _) rfl)
      kernel_rfl
    case o5 =>
      intro us wx hR hp
      have hsz : w9.heap.size + 1 + 1 ≤ wx.heap.size := hR.sz
      have u4 : us 4 = _ := hp 4 (by simp [Region.binds])
      refine .inl ⟨by kernel_rfl, fun K Q hK => ?_⟩
      simp only [putAll, Act.put, Nat.reduceAdd, u4] at hK ⊢
      go_simp
      refine Eq.mp ?_ (hK (.agg #[.string ⟨#[]⟩, .int .u64 0]) _ (Kp.refl _ _) rfl)
      kernel_rfl
    case o6 =>
      intro us wx hR hp
      have hsz : w9.heap.size + 1 + 1 ≤ wx.heap.size := hR.sz
      have u4 : us 4 = _ := hp 4 (by simp [Region.binds])
      refine .inl ⟨by kernel_rfl, fun K Q hK => ?_⟩
      simp only [putAll, Act.put, Nat.reduceAdd, u4] at hK ⊢
      go_simp
      refine Eq.mp ?_ (hK (.agg #[.int .i64 0, .string ⟨#[]⟩, .int .u64 0, .int .u64 0]) _ (Kp.refl _ _) rfl)
      kernel_rfl
    case o7 =>
      intro us wx hR hp
      have hsz : w9.heap.size + 1 + 1 ≤ wx.heap.size := hR.sz
      have u4 : us 4 = _ := hp 4 (by simp [Region.binds])
      refine .inl ⟨by kernel_rfl, fun K Q hK => ?_⟩
      simp only [putAll, Act.put, Nat.reduceAdd, u4] at hK ⊢
      go_simp
      refine Eq.mp ?_ (hK (.int .i64 1) _ (Kp.refl _ _) rfl)
      kernel_rfl
    case o8 =>
      intro us wx hR hp
      have hsz : w9.heap.size + 1 + 1 ≤ wx.heap.size := hR.sz
      refine .inl ⟨by kernel_rfl, fun K Q hK => ?_⟩
      simp only [putAll, Act.put] at hK ⊢
      go_simp
      refine Eq.mp ?_ (hK (.pointer (some ⟨wx.heap.size, 0, none⟩)) _ (Kp.alloc hsz _) ⟨_, #[.string ⟨#[]⟩, .int .u64 0], rfl, hsz, at_new _ _, rfl⟩)
      kernel_rfl
    case o9 =>
      intro us wx hR hp
      have hsz : w9.heap.size + 1 + 1 ≤ wx.heap.size := hR.sz
      refine .inl ⟨by kernel_rfl, fun K Q hK => ?_⟩
      simp only [putAll, Act.put] at hK ⊢
      go_simp
      refine Eq.mp ?_ (hK (.pointer (some ⟨wx.heap.size, 0, none⟩)) _ (Kp.alloc hsz _) ⟨_, #[.int .i64 0, .string ⟨#[]⟩, .int .u64 0, .int .u64 0], rfl, hsz, at_new _ _, rfl⟩)
      kernel_rfl
    case o10 =>
      intro us wx hR hp
      have hsz : w9.heap.size + 1 + 1 ≤ wx.heap.size := hR.sz
      obtain ⟨b, c, eb, hb, hc, hs⟩ := hp 8 (by simp [Region.binds])
      have u5 : us 5 = _ := hp 5 (by simp [Region.binds])
      obtain ⟨c0, c1, rfl⟩ := arr2 hs
      have d0 : wx.cell? ⟨b, 0, none⟩ = some c0 := at_cell hc 0
      have f0 := at_frozen hc 0
      have d1 : wx.cell? ⟨b, 1, none⟩ = some c1 := at_cell hc 1
      have f1 := at_frozen hc 1
      refine .inl ⟨by kernel_rfl, fun K Q hK => ?_⟩
      simp only [putAll, Act.put, Nat.reduceAdd, eb, u5] at hK ⊢
      go_simp
      refine Eq.mp ?_ (hK undef _ (Kp.trans (Kp.setCell (o := 0) hb hc (by decide) (.string ⟨#[]⟩)) (Kp.setCell (o := 1) hb (at_set hc 0 (.string ⟨#[]⟩)) (by decide) (.int .u64 0))) trivial)
      kernel_rfl
    case o11 =>
      intro us wx hR hp
      have hsz : w9.heap.size + 1 + 1 ≤ wx.heap.size := hR.sz
      obtain ⟨b, c, eb, hb, hc, hs⟩ := hp 9 (by simp [Region.binds])
      have u5 : us 6 = _ := hp 6 (by simp [Region.binds])
      obtain ⟨c0, c1, c2, c3, rfl⟩ := arr4 hs
      have d0 : wx.cell? ⟨b, 0, none⟩ = some c0 := at_cell hc 0
      have f0 := at_frozen hc 0
      have d1 : wx.cell? ⟨b, 1, none⟩ = some c1 := at_cell hc 1
      have f1 := at_frozen hc 1
      have d2 : wx.cell? ⟨b, 2, none⟩ = some c2 := at_cell hc 2
      have f2 := at_frozen hc 2
      have d3 : wx.cell? ⟨b, 3, none⟩ = some c3 := at_cell hc 3
      have f3 := at_frozen hc 3
      refine .inl ⟨by kernel_rfl, fun K Q hK => ?_⟩
      simp only [putAll, Act.put, Nat.reduceAdd, eb, u5] at hK ⊢
      go_simp
      refine Eq.mp ?_ (hK undef _ (Kp.trans (Kp.trans (Kp.trans (Kp.setCell (o := 0) hb hc (by decide) (.int .i64 0)) (Kp.setCell (o := 1) hb (at_set hc 0 (.int .i64 0)) (by decide) (.string ⟨#[]⟩))) (Kp.setCell (o := 2) hb (at_set (at_set hc 0 (.int .i64 0)) 1 (.string ⟨#[]⟩)) (by decide) (.int .u64 0))) (Kp.setCell (o := 3) hb (at_set (at_set (at_set hc 0 (.int .i64 0)) 1 (.string ⟨#[]⟩)) 2 (.int .u64 0)) (by decide) (.int .u64 0))) trivial)
      kernel_rfl
    case o12 =>
      intro us wx hR hp
      have hsz : w9.heap.size + 1 + 1 ≤ wx.heap.size := hR.sz
      have u7 : us 7 = _ := hp 7 (by simp [Region.binds])
      refine .inl ⟨by kernel_rfl, fun K Q hK => ?_⟩
      simp only [putAll, Act.put, Nat.reduceAdd, u7] at hK ⊢
      go_simp
      refine Eq.mp ?_ (hK (.int .i64 1) _ (Kp.refl _ _) rfl)
      kernel_rfl
  case m7 =>
    intro us wx hk hall
    have e12 : us 12 = .int .i64 1 := hall 12 (by simp)
    have q10 := hk.old _ _ _ z9_1 y10
    have q11 := hk.old _ _ _ z9_1 y11
    have q20 := hk.old _ _ _ z9_2 y20
    have q21 := hk.old _ _ _ z9_2 y21
    have q30 := hk.old _ _ _ z9_3 y30
    have q31 := hk.old _ _ _ z9_3 y31
    have q32 := hk.old _ _ _ z9_3 y32
    have q33 := hk.old _ _ _ z9_3 y33
    have q40 := hk.old _ _ _ z9_4 y40
    have q41 := hk.old _ _ _ z9_4 y41
    have q50 := hk.old _ _ _ z9_5 y50
    have q51 := hk.old _ _ _ z9_5 y51
    have q52 := hk.old _ _ _ z9_5 y52
    have q53 := hk.old _ _ _ z9_5 y53
    have hlow := hk.low
    have hsx := hk.sz
    simp only [putAll, Act.put]
    clear hk hall
    go_wp2_with fail
    go_at_call 8
    refine (plus_v 5 10 15 (by kernel_rfl) _ (by omega) (by omega) (by omega) (by omega)).mono ?_
    rintro e w' ⟨rfl, rfl⟩
    go_wp2_with fail
    go_at_call 8
    refine (plus_v 18446744073709551613 10 18446744073709551615 (by kernel_rfl) _ (by omega) (by omega) (by omega) (by omega)).mono ?_
    rintro e w' ⟨rfl, rfl⟩
    go_wp2_with fail
    go_at_call 8
    refine (plus_v 18446744073709551615 18446744073709551615 18446744073709551615 (by kernel_rfl) _ (by omega) (by omega) (by omega) (by omega)).mono ?_
    rintro e w' ⟨rfl, rfl⟩
    go_wp2_with fail
    go_at_call 8
    refine (plus_v 0 18446744073709551615 18446744073709551615 (by kernel_rfl) _ (by omega) (by omega) (by omega) (by omega)).mono ?_
    rintro e w' ⟨rfl, rfl⟩
    go_wp2_with fail
    (go_at_call 10; refine (awake_any _).mono ?_; rintro e w' ⟨rfl, hb⟩; obtain ⟨hc, hf⟩ := bcell hb; have hz := hb.size; clear hc hf)
    go_wp2_with fail
    go_ret
    exact ⟨rfl, (by repeat' first | (with_reducible exact Below.refl _ _) | (with_reducible refine Below.setCell ?_ ?_ _) | (with_reducible refine Below.alloc ?_ ?_ _) | (with_reducible refine Below.drew ?_) | (with_reducible refine Below.trans ?_ (Below.mono (by assumption) ?_)) | omega | (simp; done) | (simp; omega))⟩
end Go.Proofs.Yticnnmoheijjdaa
