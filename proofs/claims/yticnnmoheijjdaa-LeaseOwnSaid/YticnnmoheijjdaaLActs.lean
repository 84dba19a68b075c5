/- A slice of acts that reads as a list; the contract of Great. -/
import Derived.Test.YticnnmoheijjdaaL4
import Derived.Test.YticnnmoheijjdaaK
import Derived.Test.YticnnmoheijjdaaQ
import Derived.LoopTactic
import Derived.Lib.Hide
import Derived.RegionTactic
import Derived.BigRegion
namespace Go.Proofs.Yticnnmoheijjdaa
open Go.RowKit Go.ChangeShapes Go.WideShapes Go.ChangeAt Go.Joins
set_option linter.unusedVariables false
set_option linter.unusedSimpArgs false

structure AA where
  how : Int
  owner : ByteArray
  dst : ByteArray
  d : Int
  wait : Int
/-- Element i lies in five cells. -/
def AA.at_ (x : AA) (w : World) (b o : Nat) : Prop :=
  w.cell? ⟨b, o, none⟩ = some (.int .i64 x.how) ∧ w.cell? ⟨b, o + 1, none⟩ = some (.string x.owner) ∧ w.cell? ⟨b, o + 2, none⟩ = some (.string x.dst) ∧ w.cell? ⟨b, o + 3, none⟩ = some (.int .u64 x.d) ∧ w.cell? ⟨b, o + 4, none⟩ = some (.int .u64 x.wait)
def AA.fits (x : AA) : Prop := 0 ≤ x.d ∧ x.d ≤ 18446744073709551615 ∧ 0 ≤ x.wait ∧ x.wait ≤ 18446744073709551615 ∧ x.owner.size ≤ maxLen ∧ x.dst.size ≤ maxLen ∧ -9223372036854775808 ≤ x.how ∧ x.how ≤ 9223372036854775807
def ActsAt (w : World) (A : Option Addr) (n : Nat) : Prop :=
  n ≤ maxLen ∧ (0 < n → ∃ b off, A = some ⟨b, off, none⟩ ∧ b < w.heap.size ∧ ∀ k, k < n → ∃ x : AA, x.at_ w b (off + k * 5) ∧ x.fits)
theorem AA.at_.below {x : AA} {w w' : World} {b o : Nat} (h : x.at_ w b o) (hb : Below w.heap.size w w') (hl : b < w.heap.size) : x.at_ w' b o := by
  obtain ⟨h1, h2, h3, h4, h5⟩ := h
  exact ⟨(hb.cell (p := ⟨b, _, none⟩) hl).trans h1, (hb.cell (p := ⟨b, _, none⟩) hl).trans h2, (hb.cell (p := ⟨b, _, none⟩) hl).trans h3, (hb.cell (p := ⟨b, _, none⟩) hl).trans h4, (hb.cell (p := ⟨b, _, none⟩) hl).trans h5⟩

def SomeBool (w : World) (e : Ending) (w' : World) : Prop := ∃ r : Bool, e = .returned (.bool r) ∧ Below w.heap.size w w'

set_option maxRecDepth 100000 in
set_option maxHeartbeats 4000000 in
theorem Great_any (A : Option Addr) (n cap : Nat) (w : World) (h : ActsAt w A n) :
    Calls Try.prog 20 #[.slice A n cap] w (SomeBool w) := by
  obtain ⟨hn, hc⟩ := h
  unfold maxLen at hn
  go_enter Try.func20, Try.ntmps20
  by_cases hbig : 200 < n
  · go_wp2
    go_ret
    exact ⟨_, rfl, (by repeat' first | (with_reducible exact Below.refl _ _) | (with_reducible refine Below.setCell ?_ ?_ _) | (with_reducible refine Below.alloc ?_ ?_ _) | (with_reducible refine Below.drew ?_) | (with_reducible refine Below.trans ?_ (Below.mono (by assumption) ?_)) | omega | (simp; done) | (simp; omega))⟩
  · go_wp2_with fail
    go_loopw [3, 4] (fun s i wr => ∃ (k : Nat) (x : Int), k ≤ n ∧ s = .int .i64 x ∧ i = .int .i64 k ∧ Below w.heap.size w wr) (fun _ i _ => n - (intOf i).toNat)
    case atStart => exact ⟨0, 0, by omega, rfl, rfl, Below.refl _ _⟩
    case round =>
      obtain ⟨k, x, hk, rfl, rfl, hb0⟩ := hrel
      by_cases hlt : k < n
      · obtain ⟨b, off, rfl, hbl, hel⟩ := hc (by omega)
        obtain ⟨y, hy, hf⟩ := hel k hlt
        obtain ⟨f1, f2, f3, f4, f5, f6, f7, f8⟩ := hf
        obtain ⟨e0, e1, e2, e3, e4⟩ := hy.below hb0 hbl
        clear hel hc hy
        unfold maxLen at f5 f6
        go_wp2_with fail
        · go_ret
          exact ⟨_, rfl, (by repeat' first | (with_reducible exact Below.refl _ _) | (with_reducible refine Below.setCell ?_ ?_ _) | (with_reducible refine Below.alloc ?_ ?_ _) | (with_reducible refine Below.drew ?_) | (with_reducible refine Below.trans ?_ (Below.mono (by assumption) ?_)) | omega | (simp; done) | (simp; omega))⟩
        · go_region
          go_wp2
          go_roundw
          case rel => exact ⟨k + 1, _, by omega, rfl, by go_num, (by repeat' first | (with_reducible exact Below.refl _ _) | (with_reducible refine Below.setCell ?_ ?_ _) | (with_reducible refine Below.alloc ?_ ?_ _) | (with_reducible refine Below.drew ?_) | (with_reducible refine Below.trans ?_ (Below.mono (by assumption) ?_)) | omega | (simp; done) | (simp; omega))⟩
          case measure => simp [intOf]; omega
        · go_ret
          exact ⟨_, rfl, (by repeat' first | (with_reducible exact Below.refl _ _) | (with_reducible refine Below.setCell ?_ ?_ _) | (with_reducible refine Below.alloc ?_ ?_ _) | (with_reducible refine Below.drew ?_) | (with_reducible refine Below.trans ?_ (Below.mono (by assumption) ?_)) | omega | (simp; done) | (simp; omega))⟩
      · go_wp2
        go_ret
        exact ⟨_, rfl, (by repeat' first | (with_reducible exact Below.refl _ _) | (with_reducible refine Below.setCell ?_ ?_ _) | (with_reducible refine Below.alloc ?_ ?_ _) | (with_reducible refine Below.drew ?_) | (with_reducible refine Below.trans ?_ (Below.mono (by assumption) ?_)) | omega | (simp; done) | (simp; omega))⟩
end Go.Proofs.Yticnnmoheijjdaa
