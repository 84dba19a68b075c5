/- Numbers and texts as rows: the plain functions, and what follows of them. No program in sight. -/
import Derived.Lib.BitFns
import Derived.Lib.Strings
namespace Go.Proofs.YtbaobjkhdieapaaDoor
set_option linter.unusedVariables false
set_option linter.unusedSimpArgs false

/-- A number's last bytes, the greatest first. -/
def bigL (n : Nat) : Nat → List UInt8
  | 0 => []
  | w + 1 => UInt8.ofNat (n / 256 ^ w) :: bigL n w
def behindN (n : Nat) : Nat := if n < 248 then 0 else (Lib.bitLen n + 7) / 8
def varL1 (n : Nat) : List UInt8 := if 0 < behindN n then UInt8.ofNat (247 + behindN n) :: bigL n (behindN n) else [UInt8.ofNat n]
def varL : List Nat → List UInt8
  | [] => []
  | n :: ns => varL1 n ++ varL ns
def textL : List (List UInt8) → List UInt8
  | [] => []
  | s :: ss => varL1 s.length ++ s ++ textL ss
def readBigL (s : List UInt8) (w : Nat) : Nat := (s.take w).foldl (fun n c => (n * 256 + c.toNat) % 2 ^ 64) 0

theorem bigL_len (n : Nat) : ∀ w, (bigL n w).length = w
  | 0 => rfl
  | w + 1 => by simp [bigL, bigL_len n w]
theorem bitLen_le64 (n : Nat) : Lib.bitLen n ≤ 64 := by
  have : ∀ f x, Lib.bitLenAux f x ≤ f := by
    intro f
    induction f with
    | zero => intro x; simp [Lib.bitLenAux]
    | succ f ih =>
      intro x
      have h := ih (x / 2)
      unfold Lib.bitLenAux
      split <;> omega
  exact this 64 n
theorem behindN_le (n : Nat) : behindN n ≤ 8 := by
  unfold behindN; have := bitLen_le64 n; split <;> omega
theorem varL1_len (n : Nat) : (varL1 n).length ≤ 9 := by
  unfold varL1; have := behindN_le n; split <;> simp [bigL_len]; omega
theorem varL_len : ∀ ns : List Nat, (varL ns).length ≤ 9 * ns.length
  | [] => by simp [varL]
  | n :: ns => by have := varL1_len n; have := varL_len ns; simp [varL]; omega
theorem varL_append : ∀ a b : List Nat, varL (a ++ b) = varL a ++ varL b
  | [], b => rfl
  | n :: a, b => by simp [varL, varL_append a b]
theorem varL_snoc (a : List Nat) (n : Nat) : varL (a ++ [n]) = varL a ++ varL1 n := by rw [varL_append]; simp [varL]
theorem byte_of (n : Int) (h0 : 0 ≤ n) (k : Nat) : n / 2 ^ (8 * k) % 256 = (((UInt8.ofNat (n.toNat / 256 ^ k)).toNat : Nat) : Int) := by
  obtain ⟨m, rfl⟩ := Int.eq_ofNat_of_zero_le h0
  have e : (256 : Nat) ^ k = 2 ^ (8 * k) := by rw [Nat.pow_mul]
  simp only [Int.toNat_natCast, UInt8.toNat_ofNat', e]
  rw [Int.natCast_emod, Int.natCast_ediv]
  simp
theorem byte_of0 (n : Int) (h0 : 0 ≤ n) : n % 256 = (((UInt8.ofNat n.toNat).toNat : Nat) : Int) := by
  have := byte_of n h0 0
  simpa using this
/-- The number of some bytes, the greatest first. -/
def beV (l : List UInt8) : Nat := l.foldl (fun n c => n * 256 + c.toNat) 0
theorem beV_snoc (l : List UInt8) (c : UInt8) : beV (l ++ [c]) = beV l * 256 + c.toNat := by simp [beV]
theorem beV_go (l : List UInt8) : ∀ (n k : Nat), n < 256 ^ k → l.foldl (fun n c => n * 256 + c.toNat) n < 256 ^ (k + l.length) := by
  induction l with
  | nil => intro n k h; simpa using h
  | cons c l ih =>
    intro n k h
    have hc := c.toNat_lt
    have := ih (n * 256 + c.toNat) (k + 1) (by rw [Nat.pow_succ]; omega)
    rw [List.length_cons, show k + (l.length + 1) = k + 1 + l.length from by omega]
    exact this
theorem beV_lt (l : List UInt8) : beV l < 256 ^ l.length := by
  have := beV_go l 0 0 (by simp)
  simpa [beV] using this
def readBig (l : List UInt8) (width : Int) : Option Nat := if width < 1 ∨ 8 < width ∨ (l.length : Int) < width then none else some (beV (l.take width.toNat))
theorem or_byte (x c : Nat) (h : c < 256) : (x * 256) ||| c = x * 256 + c := by
  have := Nat.two_pow_add_eq_or_of_lt (i := 8) (b := c) (by simpa using h) x
  rw [Nat.mul_comm x 256]
  simpa using this.symm
theorem readBig_lt {l : List UInt8} {k : Int} {n : Nat} (h : readBig l k = some n) : n < 18446744073709551616 := by
  unfold readBig at h
  split at h
  · cases h
  · rename_i hk
    injection h with h
    subst h
    have h1 := beV_lt (l.take k.toNat)
    have h2 : (l.take k.toNat).length ≤ 8 := by rw [List.length_take]; omega
    have h3 : 256 ^ (l.take k.toNat).length ≤ 256 ^ 8 := Nat.pow_le_pow_right (by omega) h2
    omega
/-- The number whose row a text begins with, and the row's size. -/
def readVar (l : List UInt8) : Option (Nat × Nat) := match l with
  | [] => none
  | c :: r => if c.toNat < 248 then some (c.toNat, 1) else
    match readBig r (((c.toNat - 247 : Nat) : Nat) : Int) with
    | none => none
    | some n => if behindN n = c.toNat - 247 then some (n, 1 + (c.toNat - 247)) else none
def readText (l : List UInt8) (most : Int) : Option (List UInt8 × Nat) := match readVar l with
  | none => none
  | some (n, k) => if most < 0 ∨ most < n ∨ l.length - k < n then none else some ((l.drop k).take n, k + n)
end Go.Proofs.YtbaobjkhdieapaaDoor
