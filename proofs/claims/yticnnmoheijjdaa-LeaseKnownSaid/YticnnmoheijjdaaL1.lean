/- Contracts of the lease layer's functions: each returns what a plain Lean function says and leaves old memory as it was. -/
import Derived.Test.YticnnmoheijjdaaRows
import Derived.WalkKit
import Derived.WalkLawsBesides
import Derived.WalkSpells
import Derived.Outline
import Derived.RegionTactic
import Derived.BigRegion
import Derived.BigQuiet
import Derived.Deep.QuietTactic
namespace Go.Proofs.Yticnnmoheijjdaa
open Go.RowKit
set_option linter.unusedVariables false
set_option linter.unusedSimpArgs false
def plusI (a b : Int) : Int := if a + b ≤ 18446744073709551615 then a + b else 18446744073709551615
theorem ret_int {k : IntKind} {a b : Int} (h : a = b) : Ending.returned (.int k a) = .returned (.int k b) := by rw [h]
theorem ret_bool {a b : Bool} (h : a = b) : Ending.returned (.bool a) = .returned (.bool b) := by rw [h]

set_option maxHeartbeats 400000 in
theorem Plus_any (a b : Int) (w : World) (ha : 0 ≤ a) (ha' : a ≤ 18446744073709551615) (hb : 0 ≤ b) (hb' : b ≤ 18446744073709551615) :
    Calls Try.prog 8 #[.int .u64 a, .int .u64 b] w fun e w' => e = .returned (.int .u64 (plusI a b)) ∧ w = w' := by
  go_enter Try.func8, Try.ntmps8
  go_wp2
  all_goals go_ret
  all_goals refine ⟨ret_int ?_, rfl⟩
  all_goals unfold plusI
  · rw [if_neg (by omega)]; omega
  · rw [if_pos (by omega)]

def ownerOk (s : ByteArray) : Bool := decide (1 ≤ s.size) && decide (s.size ≤ 32)
set_option maxHeartbeats 400000 in
theorem Owner_any (s : ByteArray) (w : World) :
    Calls Try.prog 17 #[.string s] w fun e w' => e = .returned (.bool (ownerOk s)) ∧ w = w' := by
  go_enter Try.func17, Try.ntmps17
  go_wp2
  all_goals go_ret
  all_goals refine ⟨ret_bool ?_, rfl⟩
  all_goals unfold ownerOk
  · have h : 1 ≤ s.size := by omega
    by_cases h2 : s.size ≤ 32 <;> simp [h, h2] <;> omega
  · have h : ¬ 1 ≤ s.size := by omega
    simp [h]

set_option maxHeartbeats 400000 in
theorem Runs_any (o : ByteArray) (u now : Int) (w : World) :
    Calls Try.prog 9 #[.agg #[.string o, .int .u64 u], .int .u64 now] w fun e w' => e = .returned (.bool (decide (now < u))) ∧ Below w.heap.size w w' := by
  go_enter Try.func9, Try.ntmps9
  go_wp2
  go_ret
  exact ⟨rfl, (Below.refl _ _).alloc (Nat.le_refl _) _⟩

/-- What a call of the layer hands back: a lease, an event, an error's number. -/
structure LR where
  lo : ByteArray
  lu : Int
  xh : Int
  xo : ByteArray
  xa : Int
  xu : Int
  e : Int
abbrev RV (r : LR) : Value := .tuple #[.agg #[.string r.lo, .int .u64 r.lu], .agg #[.int .i64 r.xh, .string r.xo, .int .u64 r.xa, .int .u64 r.xu], .int .i64 r.e]
def noL (x : Int) : LR := ⟨⟨#[]⟩, 0, 0, ⟨#[]⟩, 0, 0, x⟩
def toldL (o : ByteArray) (u how now : Int) : LR := ⟨o, u, how, o, now, u, 0⟩

set_option maxHeartbeats 400000 in
theorem no_any (x : Int) (w : World) :
    Calls Try.prog 21 #[.int .i64 x] w fun e w' => e = .returned (RV (noL x)) ∧ Below w.heap.size w w' := by
  go_enter Try.func21, Try.ntmps21
  go_wp2
  exact bodyPost_ret (v := RV (noL x)) (by simp [results, Try.results21, go_sem, noL]) rfl ⟨rfl, (by repeat' first | (with_reducible exact Below.refl _ _) | (with_reducible refine Below.setCell ?_ ?_ _) | (with_reducible refine Below.alloc ?_ ?_ _) | (with_reducible refine Below.drew ?_) | (with_reducible refine Below.trans ?_ (Below.mono (by assumption) ?_)) | omega | (simp; done) | (simp; omega))⟩

set_option maxHeartbeats 400000 in
theorem told_any (o : ByteArray) (u how now : Int) (w : World) :
    Calls Try.prog 22 #[.agg #[.string o, .int .u64 u], .int .i64 how, .int .u64 now] w fun e w' => e = .returned (RV (toldL o u how now)) ∧ Below w.heap.size w w' := by
  go_enter Try.func22, Try.ntmps22
  go_wp2
  go_region
  go_wp2
  exact bodyPost_ret (v := RV (toldL o u how now)) (by simp [results, Try.results22, go_sem, toldL]) rfl ⟨rfl, (by repeat' first | (with_reducible exact Below.refl _ _) | (with_reducible refine Below.setCell ?_ ?_ _) | (with_reducible refine Below.alloc ?_ ?_ _) | (with_reducible refine Below.drew ?_) | (with_reducible refine Below.trans ?_ (Below.mono (by assumption) ?_)) | omega | (simp; done) | (simp; omega))⟩

theorem bcell {W w1 : World} (hb : Below W.heap.size W w1) : (∀ b o, b < W.heap.size → w1.cell? ⟨b, o, none⟩ = W.cell? ⟨b, o, none⟩) ∧ (∀ b o, b < W.heap.size → w1.frozen? ⟨b, o, none⟩ = W.frozen? ⟨b, o, none⟩) :=
  ⟨fun b o h => hb.cell (p := ⟨b, o, none⟩) h, fun b o h => hb.frozen (p := ⟨b, o, none⟩) h⟩

def takeL (u : Int) (had : Bool) (now : Int) (owner : ByteArray) (d : Int) : LR :=
  if (!ownerOk owner || d == 0) = true then noL 1 else if (had && decide (now < u)) = true then noL 22 else toldL owner (plusI now d) 1 now

set_option maxHeartbeats 1000000 in
theorem Take_any (o : ByteArray) (u : Int) (had : Bool) (now : Int) (owner : ByteArray) (d : Int) (w : World) (h1 : 0 ≤ now) (h2 : now ≤ 18446744073709551615) (h3 : 0 ≤ d) (h4 : d ≤ 18446744073709551615) :
    Calls Try.prog 11 #[.agg #[.string o, .int .u64 u], .bool had, .int .u64 now, .string owner, .int .u64 d] w fun e w' => e = .returned (RV (takeL u had now owner d)) ∧ Below w.heap.size w w' := by
  go_enter Try.func11, Try.ntmps11
  go_wp2_with (first | (go_at_call 17; refine (Owner_any _ _).mono ?_; rintro e w' ⟨rfl, rfl⟩) | (go_at_call 9; refine (Runs_any _ _ _ _).mono ?_; rintro e w' ⟨rfl, hb⟩; obtain ⟨hc, hf⟩ := bcell hb; have hz := hb.size; have c0 := fun o => hc (w.heap.size) o (by first | omega | (simp; done) | (simp; omega)); have d0 := fun o => hf (w.heap.size) o (by first | omega | (simp; done) | (simp; omega)); have hz0 : w.heap.size < w'.heap.size := (by first | omega | (simp at hz; omega)); have c1 := fun o => hc (w.heap.size + 1) o (by first | omega | (simp; done) | (simp; omega)); have d1 := fun o => hf (w.heap.size + 1) o (by first | omega | (simp; done) | (simp; omega)); have hz1 : w.heap.size + 1 < w'.heap.size := (by first | omega | (simp at hz; omega)); have c2 := fun o => hc (w.heap.size + 1 + 1) o (by first | omega | (simp; done) | (simp; omega)); have d2 := fun o => hf (w.heap.size + 1 + 1) o (by first | omega | (simp; done) | (simp; omega)); have hz2 : w.heap.size + 1 + 1 < w'.heap.size := (by first | omega | (simp at hz; omega)); clear hc hf) | (go_at_call 8; refine (Plus_any _ _ _ (by assumption) (by assumption) (by assumption) (by assumption)).mono ?_; rintro e w' ⟨rfl, rfl⟩) | (go_at_call 21; refine (no_any _ _).mono ?_; rintro e w' ⟨rfl, hb⟩; obtain ⟨hc, hf⟩ := bcell hb; have hz := hb.size; have c0 := fun o => hc (w.heap.size) o (by first | omega | (simp; done) | (simp; omega)); have d0 := fun o => hf (w.heap.size) o (by first | omega | (simp; done) | (simp; omega)); have hz0 : w.heap.size < w'.heap.size := (by first | omega | (simp at hz; omega)); have c1 := fun o => hc (w.heap.size + 1) o (by first | omega | (simp; done) | (simp; omega)); have d1 := fun o => hf (w.heap.size + 1) o (by first | omega | (simp; done) | (simp; omega)); have hz1 : w.heap.size + 1 < w'.heap.size := (by first | omega | (simp at hz; omega)); have c2 := fun o => hc (w.heap.size + 1 + 1) o (by first | omega | (simp; done) | (simp; omega)); have d2 := fun o => hf (w.heap.size + 1 + 1) o (by first | omega | (simp; done) | (simp; omega)); have hz2 : w.heap.size + 1 + 1 < w'.heap.size := (by first | omega | (simp at hz; omega)); clear hc hf) | (go_at_call 22; refine (told_any _ _ _ _ _).mono ?_; rintro e w' ⟨rfl, hb⟩; obtain ⟨hc, hf⟩ := bcell hb; have hz := hb.size; have c0 := fun o => hc (w.heap.size) o (by first | omega | (simp; done) | (simp; omega)); have d0 := fun o => hf (w.heap.size) o (by first | omega | (simp; done) | (simp; omega)); have hz0 : w.heap.size < w'.heap.size := (by first | omega | (simp at hz; omega)); have c1 := fun o => hc (w.heap.size + 1) o (by first | omega | (simp; done) | (simp; omega)); have d1 := fun o => hf (w.heap.size + 1) o (by first | omega | (simp; done) | (simp; omega)); have hz1 : w.heap.size + 1 < w'.heap.size := (by first | omega | (simp at hz; omega)); have c2 := fun o => hc (w.heap.size + 1 + 1) o (by first | omega | (simp; done) | (simp; omega)); have d2 := fun o => hf (w.heap.size + 1 + 1) o (by first | omega | (simp; done) | (simp; omega)); have hz2 : w.heap.size + 1 + 1 < w'.heap.size := (by first | omega | (simp at hz; omega)); clear hc hf))
  all_goals refine bodyPost_ret (v := RV (takeL u had now owner d)) ?_ rfl ⟨rfl, (by repeat' first | (with_reducible exact Below.refl _ _) | (with_reducible refine Below.setCell ?_ ?_ _) | (with_reducible refine Below.alloc ?_ ?_ _) | (with_reducible refine Below.drew ?_) | (with_reducible refine Below.trans ?_ (Below.mono (by assumption) ?_)) | omega | (simp; done) | (simp; omega))⟩
  all_goals first | (simp [results, Try.results11, go_sem, takeL, *]; done) | (have hn : ¬ now < u := (by omega); simp [results, Try.results11, go_sem, takeL, *])

def ownE (o : ByteArray) (u : Int) (had : Bool) (now : Int) (owner : ByteArray) (right : Bool) : Int :=
  if (!ownerOk owner || !right) = true then 1 else if (!had || !decide (now < u)) = true then 23 else if (!(o.toList == owner.toList)) = true then 24 else 0

set_option maxHeartbeats 1000000 in
theorem own_any (o : ByteArray) (u : Int) (had : Bool) (now : Int) (owner : ByteArray) (right : Bool) (w : World) :
    Calls Try.prog 23 #[.agg #[.string o, .int .u64 u], .bool had, .int .u64 now, .string owner, .bool right] w fun e w' => e = .returned (.int .i64 (ownE o u had now owner right)) ∧ Below w.heap.size w w' := by
  go_enter Try.func23, Try.ntmps23
  go_wp2_with (first | (go_at_call 17; refine (Owner_any _ _).mono ?_; rintro e w' ⟨rfl, rfl⟩) | (go_at_call 9; refine (Runs_any _ _ _ _).mono ?_; rintro e w' ⟨rfl, hb⟩; obtain ⟨hc, hf⟩ := bcell hb; have hz := hb.size; have c0 := fun o => hc (w.heap.size) o (by first | omega | (simp; done) | (simp; omega)); have d0 := fun o => hf (w.heap.size) o (by first | omega | (simp; done) | (simp; omega)); have hz0 : w.heap.size < w'.heap.size := (by first | omega | (simp at hz; omega)); clear hc hf))

  all_goals go_ret
  all_goals refine ⟨ret_int ?_, (by repeat' first | (with_reducible exact Below.refl _ _) | (with_reducible refine Below.setCell ?_ ?_ _) | (with_reducible refine Below.alloc ?_ ?_ _) | (with_reducible refine Below.drew ?_) | (with_reducible refine Below.trans ?_ (Below.mono (by assumption) ?_)) | omega | (simp; done) | (simp; omega))⟩
  all_goals first | (simp [ownE, *]; done) | (have hn : ¬ now < u := (by omega); simp [ownE, *])
end Go.Proofs.Yticnnmoheijjdaa
