/- Numbers and texts as rows: the plain functions, and what follows of them. No program in sight. What was written reads back: numbers and texts; sharing; the order of texts. No program in sight. Package block, plain: what a builder has, what its bytes are, how they are read. No program in sight. Package okey, plain: a text's key, and what keys' bytes are read as. Words for memory, after the guide's page of lemmas to copy (extra-words): a slice that reads as a list; a block known whole; append whatever the source. Contracts of package num: behind, put, Var. A region that draws its order, whatever its operations do: each operation leaves a value of its own kind, and keeps the others'. A region that draws its order, whose operations load from old blocks and whose callees leave old memory as it was: one walk, in the order of the text, serves every order. The class of worlds: those that have grown out of the one at hand. -/
import Derived.Lib.BitFns
import Derived.Lib.Strings
import GoSem.Op.String
import Derived.Lib.Replace
import Derived.Lib.IndexBytes
import Derived.Test.YtfnlponoakhegaaDoorRows
import Derived.WalkKit
import Derived.Below
import Derived.Laws.OwnMore
import Derived.Deep.AppendLies
import Derived.Deep.Draws
import Derived.Laws.Rows
import Derived.Maps.AppendAt
import Derived.RegionTactic
import Derived.OwnWalk
import Derived.Laws.BytesArg
import Derived.Test.YtfnlponoakhegaaDoorShelf
import Derived.WalkLawsBesides
import Derived.WalkSpells
import Derived.Outline
import Derived.LoopTactic
import Derived.Lib.Hide
import Derived.Orders
import Derived.BigQuiet
import Derived.Deep.QuietTactic
namespace Go.Proofs.YtfnlponoakhegaaDoor
set_option linter.unusedVariables false
set_option linter.unusedSimpArgs false

/-- A number's last bytes, the greatest first. -/
def bigL (n : Nat) : Nat → List UInt8
  | 0 => []
  | w + 1 => UInt8.ofNat (n / 256 ^ w) :: bigL n w
def behindN (n : Nat) : Nat := if n < 248 then 0 else (Lib.bitLen n + 7) / 8
def varL1 (n : Nat) : List UInt8 := if 0 < behindN n then UInt8.ofNat (247 + behindN n) :: bigL n (behindN n) else [UInt8.ofNat n]
def varL : List Nat → List UInt8
  | [] => []
  | n :: ns => varL1 n ++ varL ns
def textL : List (List UInt8) → List UInt8
  | [] => []
  | s :: ss => varL1 s.length ++ s ++ textL ss
def readBigL (s : List UInt8) (w : Nat) : Nat := (s.take w).foldl (fun n c => (n * 256 + c.toNat) % 2 ^ 64) 0

theorem bigL_len (n : Nat) : ∀ w, (bigL n w).length = w
  | 0 => rfl
  | w + 1 => by simp [bigL, bigL_len n w]
theorem bitLen_le64 (n : Nat) : Lib.bitLen n ≤ 64 := by
  have : ∀ f x, Lib.bitLenAux f x ≤ f := by
    intro f
    induction f with
    | zero => intro x; simp [Lib.bitLenAux]
    | succ f ih =>
      intro x
      have h := ih (x / 2)
      unfold Lib.bitLenAux
      split <;> omega
  exact this 64 n
theorem behindN_le (n : Nat) : behindN n ≤ 8 := by
  unfold behindN; have := bitLen_le64 n; split <;> omega
theorem varL1_len (n : Nat) : (varL1 n).length ≤ 9 := by
  unfold varL1; have := behindN_le n; split <;> simp [bigL_len]; omega
theorem varL_len : ∀ ns : List Nat, (varL ns).length ≤ 9 * ns.length
  | [] => by simp [varL]
  | n :: ns => by have := varL1_len n; have := varL_len ns; simp [varL]; omega
theorem varL_append : ∀ a b : List Nat, varL (a ++ b) = varL a ++ varL b
  | [], b => rfl
  | n :: a, b => by simp [varL, varL_append a b]
theorem varL_snoc (a : List Nat) (n : Nat) : varL (a ++ [n]) = varL a ++ varL1 n := by rw [varL_append]; simp [varL]
theorem byte_of (n : Int) (h0 : 0 ≤ n) (k : Nat) : n / 2 ^ (8 * k) % 256 = (((UInt8.ofNat (n.toNat / 256 ^ k)).toNat : Nat) : Int) := by
  obtain ⟨m, rfl⟩ := Int.eq_ofNat_of_zero_le h0
  have e : (256 : Nat) ^ k = 2 ^ (8 * k) := by rw [Nat.pow_mul]
  simp only [Int.toNat_natCast, UInt8.toNat_ofNat', e]
  rw [Int.natCast_emod, Int.natCast_ediv]
  simp
theorem byte_of0 (n : Int) (h0 : 0 ≤ n) : n % 256 = (((UInt8.ofNat n.toNat).toNat : Nat) : Int) := by
  have := byte_of n h0 0
  simpa using this
/-- The number of some bytes, the greatest first. -/
def beV (l : List UInt8) : Nat := l.foldl (fun n c => n * 256 + c.toNat) 0
theorem beV_snoc (l : List UInt8) (c : UInt8) : beV (l ++ [c]) = beV l * 256 + c.toNat := by simp [beV]
theorem beV_go (l : List UInt8) : ∀ (n k : Nat), n < 256 ^ k → l.foldl (fun n c => n * 256 + c.toNat) n < 256 ^ (k + l.length) := by
  induction l with
  | nil => intro n k h; simpa using h
  | cons c l ih =>
    intro n k h
    have hc := c.toNat_lt
    have := ih (n * 256 + c.toNat) (k + 1) (by rw [Nat.pow_succ]; omega)
    rw [List.length_cons, show k + (l.length + 1) = k + 1 + l.length from by omega]
    exact this
theorem beV_lt (l : List UInt8) : beV l < 256 ^ l.length := by
  have := beV_go l 0 0 (by simp)
  simpa [beV] using this
def readBig (l : List UInt8) (width : Int) : Option Nat := if width < 1 ∨ 8 < width ∨ (l.length : Int) < width then none else some (beV (l.take width.toNat))
theorem or_byte (x c : Nat) (h : c < 256) : (x * 256) ||| c = x * 256 + c := by
  have := Nat.two_pow_add_eq_or_of_lt (i := 8) (b := c) (by simpa using h) x
  rw [Nat.mul_comm x 256]
  simpa using this.symm
theorem readBig_lt {l : List UInt8} {k : Int} {n : Nat} (h : readBig l k = some n) : n < 18446744073709551616 := by
  unfold readBig at h
  split at h
  · cases h
  · rename_i hk
    injection h with h
    subst h
    have h1 := beV_lt (l.take k.toNat)
    have h2 : (l.take k.toNat).length ≤ 8 := by rw [List.length_take]; omega
    have h3 : 256 ^ (l.take k.toNat).length ≤ 256 ^ 8 := Nat.pow_le_pow_right (by omega) h2
    omega
/-- The number whose row a text begins with, and the row's size. -/
def readVar (l : List UInt8) : Option (Nat × Nat) := match l with
  | [] => none
  | c :: r => if c.toNat < 248 then some (c.toNat, 1) else
    match readBig r (((c.toNat - 247 : Nat) : Nat) : Int) with
    | none => none
    | some n => if behindN n = c.toNat - 247 then some (n, 1 + (c.toNat - 247)) else none
def readText (l : List UInt8) (most : Int) : Option (List UInt8 × Nat) := match readVar l with
  | none => none
  | some (n, k) => if most < 0 ∨ most < n ∨ l.length - k < n then none else some ((l.drop k).take n, k + n)
end Go.Proofs.YtfnlponoakhegaaDoor
namespace Go.Proofs.YtfnlponoakhegaaDoor
set_option linter.unusedVariables false
set_option linter.unusedSimpArgs false
theorem bitLenAux_spec : ∀ (f n : Nat), 0 < n → n < 2 ^ f → 2 ^ (Lib.bitLenAux f n - 1) ≤ n ∧ n < 2 ^ Lib.bitLenAux f n ∧ 1 ≤ Lib.bitLenAux f n
  | 0, n, h, h' => by simp at h'; omega
  | f + 1, n, h, h' => by
    unfold Lib.bitLenAux
    split
    · omega
    · rename_i hn
      by_cases h2 : n / 2 = 0
      · have : n = 1 := by omega
        subst this
        cases f <;> simp [Lib.bitLenAux]
      · have ih := bitLenAux_spec f (n / 2) (by omega) (by rw [Nat.pow_succ] at h'; omega)
        obtain ⟨a, b, c⟩ := ih
        generalize Lib.bitLenAux f (n / 2) = m at *
        obtain ⟨m, rfl⟩ : ∃ m', m = m' + 1 := ⟨m - 1, by omega⟩
        simp only [Nat.add_sub_cancel] at a
        have e1 : 1 + (m + 1) - 1 = m + 1 := by omega
        have e2 : 1 + (m + 1) = m + 1 + 1 := by omega
        first
          | (rw [e1, e2, Nat.pow_succ 2 m, Nat.pow_succ 2 (m + 1)]; exact ⟨by omega, by omega, by omega⟩)
          | (simp only [Nat.add_sub_cancel]; rw [Nat.pow_succ 2 m, Nat.pow_succ 2 (m + 1)]; exact ⟨by omega, by omega, by omega⟩)
theorem behindN_spec (n : Nat) (h : 248 ≤ n) (h' : n < 18446744073709551616) : n < 256 ^ behindN n ∧ 256 ^ (behindN n - 1) ≤ n := by
  obtain ⟨a, b, c⟩ := bitLenAux_spec 64 n (by omega) (by omega)
  have e : behindN n = (Lib.bitLenAux 64 n + 7) / 8 := by unfold behindN; rw [if_neg (by omega)]; rfl
  rw [e]
  generalize Lib.bitLenAux 64 n = m at *
  have p : (256 : Nat) = 2 ^ 8 := by decide
  rw [p, ← Nat.pow_mul, ← Nat.pow_mul]
  exact ⟨Nat.lt_of_lt_of_le b (Nat.pow_le_pow_right (by omega) (by omega)), Nat.le_trans (Nat.pow_le_pow_right (by omega) (by omega)) a⟩
theorem beV_foldl (l : List UInt8) : ∀ n : Nat, l.foldl (fun n c => n * 256 + c.toNat) n = n * 256 ^ l.length + beV l := by
  induction l with
  | nil => intro n; simp [beV]
  | cons c l ih =>
    intro n
    have h1 := ih (n * 256 + c.toNat)
    have h2 := ih (0 * 256 + c.toNat)
    simp only [List.foldl_cons, beV] at h1 h2 ⊢
    rw [h1, h2, List.length_cons, Nat.pow_succ]
    simp only [Nat.add_mul, Nat.zero_mul, Nat.zero_add]
    rw [Nat.mul_assoc, Nat.mul_comm 256]
    omega
theorem beV_cons (c : UInt8) (l : List UInt8) : beV (c :: l) = c.toNat * 256 ^ l.length + beV l := by
  have := beV_foldl l (0 * 256 + c.toNat)
  simp only [Nat.zero_mul, Nat.zero_add] at this
  simpa [beV] using this
theorem beV_big (n : Nat) : ∀ w, beV (bigL n w) = n % 256 ^ w
  | 0 => by simp [bigL, beV, Nat.mod_one]
  | w + 1 => by
    show beV (UInt8.ofNat (n / 256 ^ w) :: bigL n w) = _
    have e : 256 ^ (w + 1) = 256 ^ w * 256 := Nat.pow_succ ..
    have : (2 : Nat) ^ 8 = 256 := by decide
    rw [beV_cons, beV_big n w, bigL_len, UInt8.toNat_ofNat', this, e, Nat.mod_mul, Nat.mul_comm (n / 256 ^ w % 256)]
    omega
theorem readVar_var (n : Nat) (h : n < 18446744073709551616) (rest : List UInt8) : readVar (varL1 n ++ rest) = some (n, (varL1 n).length) := by
  unfold varL1
  by_cases hlo : n < 248
  · have hb : behindN n = 0 := by unfold behindN; rw [if_pos hlo]
    rw [hb, if_neg (by omega)]
    simp only [List.singleton_append, readVar, UInt8.toNat_ofNat']
    rw [if_pos (by omega)]
    simp
    omega
  · obtain ⟨a, b⟩ := behindN_spec n (by omega) h
    have h8 := behindN_le n
    have hp : 0 < behindN n := by
      rcases Nat.eq_zero_or_pos (behindN n) with h0 | h0
      · rw [h0] at a; simp at a; omega
      · exact h0
    rw [if_pos hp]
    have e1 : (UInt8.ofNat (247 + behindN n)).toNat = 247 + behindN n := by rw [UInt8.toNat_ofNat']; omega
    simp only [List.cons_append, readVar, e1]
    rw [if_neg (by omega), show 247 + behindN n - 247 = behindN n from by omega]
    have hrb : readBig (bigL n (behindN n) ++ rest) ((behindN n : Nat) : Int) = some n := by
      unfold readBig
      rw [if_neg (by rw [List.length_append, bigL_len]; omega)]
      rw [Int.toNat_natCast, List.take_append_of_le_length (by rw [bigL_len]; omega), List.take_of_length_le (by rw [bigL_len]; omega), beV_big, Nat.mod_eq_of_lt a]
    rw [hrb]
    simp [bigL_len]
    omega
theorem readText_text (a : List UInt8) (most : Nat) (h : a.length ≤ most) (hm : most < 4294967296) : readText (textL [a]) most = some (a, (textL [a]).length) := by
  unfold readText
  simp only [textL, List.append_nil]
  rw [readVar_var a.length (by omega) a]
  simp only []
  rw [if_neg (by simp; omega)]
  simp
theorem readText_row (a rest : List UInt8) (most : Nat) (h : a.length ≤ most) (hm : most < 4294967296) : readText (varL1 a.length ++ a ++ rest) most = some (a, (varL1 a.length).length + a.length) := by
  unfold readText
  rw [List.append_assoc, readVar_var a.length (by omega)]
  simp only []
  rw [if_neg (by simp; omega)]
  simp
theorem readBig_big (n width : Nat) (rest : List UInt8) (h0 : 1 ≤ width) (h8 : width ≤ 8) (h : n < 256 ^ width) : readBig (bigL n width ++ rest) width = some n := by
  unfold readBig
  rw [if_neg (by rw [List.length_append, bigL_len]; omega)]
  rw [Int.toNat_natCast, List.take_append_of_le_length (by rw [bigL_len]; omega), List.take_of_length_le (by rw [bigL_len]; omega), beV_big, Nat.mod_eq_of_lt h]
theorem bigL_inj {n m width : Nat} (hn : n < 256 ^ width) (hm : m < 256 ^ width) (h : bigL n width = bigL m width) : n = m := by
  have := congrArg beV h
  rw [beV_big, beV_big, Nat.mod_eq_of_lt hn, Nat.mod_eq_of_lt hm] at this
  exact this
end Go.Proofs.YtfnlponoakhegaaDoor
namespace Go.Proofs.YtfnlponoakhegaaDoor
set_option linter.unusedVariables false
set_option linter.unusedSimpArgs false
abbrev L := List UInt8
theorem snocRec {α : Type} {motive : List α → Prop} (nil : motive []) (snoc : ∀ l a, motive l → motive (l ++ [a])) (l : List α) : motive l := by
  rw [← List.reverse_reverse l]
  generalize l.reverse = r
  induction r with
  | nil => exact nil
  | cons a r ih => rw [List.reverse_cons]; exact snoc _ _ ih
def lessL (a b : L) : Bool := Op.bytesLess a b
theorem less_irrefl : ∀ a : L, lessL a a = false
  | [] => rfl
  | c :: a => by
    have ih := less_irrefl a
    unfold lessL at ih ⊢
    simp [Op.bytesLess, ih]
theorem u8_lt_tri (a b : UInt8) : a < b ∨ a = b ∨ b < a := by
  rcases Nat.lt_trichotomy a.toNat b.toNat with h | h | h
  · exact .inl (UInt8.lt_iff_toNat_lt.2 h)
  · exact .inr (.inl (UInt8.toNat_inj.1 h))
  · exact .inr (.inr (UInt8.lt_iff_toNat_lt.2 h))
theorem u8_not_lt {a b : UInt8} (h : a < b) : ¬ b < a ∧ a ≠ b := by
  rw [UInt8.lt_iff_toNat_lt] at h
  refine ⟨fun h' => ?_, fun h' => ?_⟩
  · rw [UInt8.lt_iff_toNat_lt] at h'; omega
  · subst h'; omega
/-- Not above: below, or the same. -/
theorem less_tri : ∀ a b : L, (lessL a b || a == b) = !lessL b a
  | [], [] => rfl
  | [], _ :: _ => rfl
  | _ :: _, [] => by simp [lessL, Op.bytesLess]
  | a :: x, b :: y => by
    have ih := less_tri x y
    unfold lessL at ih ⊢
    simp only [Op.bytesLess, List.cons_beq_cons]
    rcases u8_lt_tri a b with h | h | h
    · obtain ⟨h1, h2⟩ := u8_not_lt h
      simp [h, h1, Ne.symm h2, h2]
    · subst h
      simp [ih]
    · obtain ⟨h1, h2⟩ := u8_not_lt h
      simp [h, h1, h2, Ne.symm h2]
theorem less_trans : ∀ {a b c : L}, lessL a b = true → lessL b c = true → lessL a c = true
  | _, [], _, h, _ => by cases ‹L› <;> simp [lessL, Op.bytesLess] at h
  | _, _ :: _, [], _, h => by simp [lessL, Op.bytesLess] at h
  | [], _ :: _, _ :: _, _, _ => rfl
  | a :: x, b :: y, c :: z, h1, h2 => by
    have ih := @less_trans x y z
    unfold lessL at ih h1 h2 ⊢
    simp only [Op.bytesLess, Bool.or_eq_true, Bool.and_eq_true, decide_eq_true_eq, beq_iff_eq] at h1 h2 ⊢
    rcases h1 with h1 | ⟨rfl, h1⟩
    · rcases h2 with h2 | ⟨rfl, h2⟩
      · refine .inl ?_
        rw [UInt8.lt_iff_toNat_lt] at *
        omega
      · exact .inl h1
    · rcases h2 with h2 | ⟨rfl, h2⟩
      · exact .inl h2
      · exact .inr ⟨rfl, ih h1 h2⟩
theorem less_asymm {a b : L} (h : lessL a b = true) : lessL b a = false := by
  rcases hb : lessL b a with _ | _
  · rfl
  · have := less_trans h hb
    rw [less_irrefl] at this
    cases this
def sharedL : L → L → Nat
  | a :: az, b :: bs => if a = b then sharedL az bs + 1 else 0
  | [], _ => 0
  | _ :: _, [] => 0
theorem sharedL_le : ∀ a b : L, sharedL a b ≤ a.length ∧ sharedL a b ≤ b.length
  | [], b => by simp [sharedL]
  | _ :: _, [] => by simp [sharedL]
  | a :: az, b :: bs => by
    have ih := sharedL_le az bs
    unfold sharedL
    split
    · simp; omega
    · simp
theorem sharedL_take : ∀ a b : L, a.take (sharedL a b) = b.take (sharedL a b)
  | [], b => by simp [sharedL]
  | _ :: _, [] => by simp [sharedL]
  | a :: az, b :: bs => by
    have ih := sharedL_take az bs
    unfold sharedL
    split
    · rename_i h
      subst h
      simp [ih]
    · simp
theorem readVar_z {l : L} {n k : Nat} (h : readVar l = some (n, k)) : k ≤ l.length := by
  cases l with
  | nil => simp [readVar] at h
  | cons c r =>
    simp only [readVar] at h
    split at h
    · simp at h; obtain ⟨rfl, rfl⟩ := h; simp
    · split at h
      · cases h
      · rename_i m hm
        split at h
        · simp at h
          obtain ⟨rfl, rfl⟩ := h
          unfold readBig at hm
          split at hm
          · cases hm
          · rename_i hk; simp; omega
        · cases h
theorem readText_z {l t : L} {m : Int} {z : Nat} (h : readText l m = some (t, z)) : z ≤ l.length := by
  unfold readText at h
  split at h
  · cases h
  · rename_i n k hv
    have := readVar_z hv
    split at h
    · cases h
    · injection h with h
      injection h with h1 h2
      omega
theorem readText_t {l t : L} {m : Int} {z : Nat} (h : readText l m = some (t, z)) : t.length ≤ l.length := by
  unfold readText at h
  split at h
  · cases h
  · split at h
    · cases h
    · injection h with h
      injection h with h1 h2
      subst h1
      simp
      omega
/-- A builder. -/
structure BB where
  b : L
  starts : List Nat
  count : Nat
  last : L
def BB.new : BB := ⟨[], [], 0, []⟩
def BB.err (s : BB) (k v : L) : Nat := if 1024 < k.length ∨ 1024 < v.length then 3 else if 0 < s.count ∧ lessL s.last k = false then 1 else 0
def BB.lead (s : BB) (k : L) : Nat := if s.count % 4 = 0 then 0 else sharedL s.last k
def BB.enc (s : BB) (k v : L) : L := varL1 (s.lead k) ++ (textL [k.drop (s.lead k), v])
def BB.put (s : BB) (k v : L) : BB := ⟨s.b ++ s.enc k v, if s.count % 4 = 0 then s.starts ++ [s.b.length] else s.starts, s.count + 1, k⟩
def BB.add (s : BB) (k v : L) : BB := if s.err k v = 0 then s.put k v else s
def BB.size (s : BB) : Nat := s.b.length + 4 * (s.starts.length + 1)
def fours (l : List Nat) : L := l.flatMap fun n => bigL n 4
def BB.out (s : BB) : L := s.b ++ fours (s.starts ++ [s.count])
theorem fours_len (l : List Nat) : (fours l).length = 4 * l.length := by
  induction l with
  | nil => rfl
  | cons n l ih =>
    have : fours (n :: l) = bigL n 4 ++ fours l := rfl
    rw [this, List.length_append, bigL_len, ih, List.length_cons]
    omega
theorem BB.out_len (s : BB) : s.out.length = s.size := by
  unfold BB.out BB.size
  rw [List.length_append, fours_len]
  simp
theorem BB.lead_le (s : BB) (k : L) : s.lead k ≤ k.length := by
  unfold BB.lead
  split
  · omega
  · exact (sharedL_le _ _).2
theorem BB.enc_len (s : BB) (k v : L) : (s.enc k v).length ≤ k.length + v.length + 27 := by
  unfold BB.enc
  have h1 := varL1_len (s.lead k)
  have h2 := varL1_len (k.drop (s.lead k)).length
  have h3 := varL1_len v.length
  simp only [textL, List.length_append, List.append_nil, List.length_drop] at h2 ⊢
  omega
/-- An entry at a place, behind a key. -/
def nextP (s : L) (at_ : Nat) (ahead : L) : Option (L × L × Nat) :=
  match readVar (s.drop at_) with
  | none => none
  | some (n, z) => if ahead.length < n then none else
    match readText (s.drop (at_ + z)) 1024 with
    | none => none
    | some (rest, z1) =>
      match readText (s.drop (at_ + z + z1)) 1024 with
      | none => none
      | some (v, z2) => some (ahead.take n ++ rest, v, at_ + z + z1 + z2)
def rdB (s : L) : Nat → Option (L × Nat × BB × List (L × L))
  | 0 => some ([], 0, BB.new, [])
  | i + 1 => match rdB s i with
    | none => none
    | some (key, p, bb, es) => match nextP s p key with
      | none => none
      | some (k, v, q) => if bb.err k v = 0 then some (k, q, bb.put k v, es ++ [(k, v)]) else none
def openB (s : L) : Option (List (L × L)) :=
  match readBig (s.drop (s.length - 4)) 4 with
  | none => none
  | some c => if s.length / 4 - 1 < (c + 3) / 4 then none else
    match rdB (s.take (s.length - 4 * ((c + 3) / 4 + 1))) c with
    | none => none
    | some (_, _, bb, es) => if bb.out = s then some es else none
def foldB (es : List (L × L)) : BB := es.foldl (fun s e => s.put e.1 e.2) BB.new
theorem foldB_snoc (es : List (L × L)) (e : L × L) : foldB (es ++ [e]) = (foldB es).put e.1 e.2 := by simp [foldB]
/-- Entries that a builder takes. -/
def ValidB (es : List (L × L)) : Prop := ∀ i k v, es[i]? = some (k, v) → (foldB (es.take i)).err k v = 0
theorem ValidB.take {es : List (L × L)} (h : ValidB es) (n : Nat) : ValidB (es.take n) := by
  intro i k v hi
  have hlt : i < n := by
    rcases Nat.lt_or_ge i n with h' | h'
    · exact h'
    · rw [List.getElem?_eq_none (by simp; omega)] at hi
      cases hi
  rw [List.getElem?_take_of_lt hlt] at hi
  rw [List.take_take, Nat.min_eq_left (by omega)]
  exact h i k v hi
theorem ValidB.snoc {es : List (L × L)} {k v : L} (h : ValidB es) (he : (foldB es).err k v = 0) : ValidB (es ++ [(k, v)]) := by
  intro i k' v' hi
  rcases Nat.lt_trichotomy i es.length with hl | hl | hl
  · rw [List.getElem?_append_left hl] at hi
    rw [List.take_append_of_le_length (by omega)]
    exact h i k' v' hi
  · subst hl
    simp at hi
    obtain ⟨rfl, rfl⟩ := hi
    simp
    exact he
  · rw [List.getElem?_eq_none (by simp; omega)] at hi
    cases hi
theorem ValidB.nil : ValidB [] := fun i k v h => by simp at h
theorem foldB_count (es : List (L × L)) : (foldB es).count = es.length := by
  induction es using snocRec with
  | nil => rfl
  | snoc es e ih => rw [foldB_snoc]; simp [BB.put, ih]
theorem rdB_spec (s : L) : ∀ (n : Nat) k p bb es, rdB s n = some (k, p, bb, es) → bb = foldB es ∧ ValidB es ∧ es.length = n := by
  intro n
  induction n with
  | zero =>
    intro k p bb es h
    simp [rdB] at h
    obtain ⟨_, _, rfl, rfl⟩ := h
    exact ⟨rfl, ValidB.nil, rfl⟩
  | succ n ih =>
    intro k p bb es h
    unfold rdB at h
    split at h
    · cases h
    · rename_i k0 p0 bb0 es0 h0
      obtain ⟨h1, h2, h3⟩ := ih _ _ _ _ h0
      split at h
      · cases h
      · split at h
        · rename_i he
          injection h with h
          injection h with ha hb
          injection hb with hb hc
          injection hc with hc hd
          subst ha hb hc hd h1
          exact ⟨by rw [foldB_snoc], h2.snoc he, by simp [h3]⟩
        · cases h
theorem openB_some {s : L} {es : List (L × L)} (h : openB s = some es) : ValidB es ∧ (foldB es).out = s := by
  unfold openB at h
  split at h
  · cases h
  · split at h
    · cases h
    · split at h
      · cases h
      · rename_i h0
        obtain ⟨h1, h2, h3⟩ := rdB_spec _ _ _ _ _ _ h0
        split at h
        · rename_i hs
          injection h with h
          subst h h1
          exact ⟨h2, hs⟩
        · cases h
/-- Where the i-th entry begins. -/
def posB (es : List (L × L)) (i : Nat) : Nat := (foldB (es.take i)).b.length
theorem take_snoc {es : List (L × L)} {i : Nat} {e : L × L} (h : es[i]? = some e) : es.take (i + 1) = es.take i ++ [e] := by
  rw [List.take_add_one, h]
  rfl
theorem foldB_take_succ {es : List (L × L)} {i : Nat} {e : L × L} (h : es[i]? = some e) : foldB (es.take (i + 1)) = (foldB (es.take i)).put e.1 e.2 := by
  rw [take_snoc h, foldB_snoc]
theorem foldB_pre (es : List (L × L)) (i : Nat) : ∃ r, (foldB es).b = (foldB (es.take i)).b ++ r := by
  induction es using snocRec with
  | nil => exact ⟨[], by simp [foldB]⟩
  | snoc es e ih =>
    rcases Nat.lt_or_ge es.length i with h | h
    · exact ⟨[], by rw [List.take_of_length_le (by simp; omega)]; simp⟩
    · obtain ⟨r, hr⟩ := ih
      rw [List.take_append_of_le_length h, foldB_snoc]
      exact ⟨r ++ (foldB es).enc e.1 e.2, by simp [BB.put, hr]⟩
theorem posB_len (es : List (L × L)) (i : Nat) : posB es i ≤ (foldB es).b.length := by
  obtain ⟨r, hr⟩ := foldB_pre es i
  rw [hr, List.length_append]
  exact Nat.le_add_right _ _
theorem foldB_last {es : List (L × L)} {i : Nat} {e : L × L} (h : es[i]? = some e) : (foldB (es.take (i + 1))).last = e.1 := by
  rw [foldB_take_succ h]
  rfl
theorem err_len {s : BB} {k v : L} (h : s.err k v = 0) : k.length ≤ 1024 ∧ v.length ≤ 1024 := by
  unfold BB.err at h
  split at h
  · cases h
  · omega
theorem next_enc (s : BB) (k v pre r ahead : L) (he : s.err k v = 0) (ha : s.count % 4 ≠ 0 → ahead = s.last) : nextP (pre ++ s.enc k v ++ r) pre.length ahead = some (k, v, pre.length + (s.enc k v).length) := by
  obtain ⟨hk, hv⟩ := err_len he
  have hll := s.lead_le k
  have hn : s.lead k < 18446744073709551616 := by omega
  have e1 : (pre ++ s.enc k v ++ r).drop pre.length = varL1 (s.lead k) ++ (varL1 (k.drop (s.lead k)).length ++ k.drop (s.lead k) ++ (varL1 v.length ++ v ++ r)) := by
    rw [List.append_assoc, List.drop_left]
    simp [BB.enc, textL]
  have hal : s.lead k ≤ ahead.length := by
    unfold BB.lead
    split
    · omega
    · rename_i hc
      rw [ha hc]
      exact (sharedL_le _ _).1
  unfold nextP
  rw [e1, readVar_var _ hn]
  simp only []
  rw [if_neg (by omega), ← List.drop_drop, e1, List.drop_left, show (1024 : Int) = ((1024 : Nat) : Int) from rfl, readText_row _ _ 1024 (by simp; omega) (by decide)]
  simp only []
  rw [← List.drop_drop, ← List.drop_drop, ← List.drop_drop, e1, List.drop_left, List.append_assoc, List.drop_left, List.drop_left, readText_row _ _ 1024 hv (by decide)]
  simp only []
  have ht : ahead.take (s.lead k) ++ k.drop (s.lead k) = k := by
    have : ahead.take (s.lead k) = k.take (s.lead k) := by
      unfold BB.lead
      split
      · simp
      · rename_i hc
        rw [ha hc]
        exact sharedL_take _ _
    rw [this, List.take_append_drop]
  rw [ht]
  simp [BB.enc, textL]
  omega
/-- Reading at an entry's place. -/
theorem next_at {es : List (L × L)} (hv : ValidB es) {i : Nat} {k v : L} (h : es[i]? = some (k, v)) (ahead : L) (ha : i % 4 ≠ 0 → ∃ e, es[i - 1]? = some e ∧ ahead = e.1) :
    nextP (foldB es).b (posB es i) ahead = some (k, v, posB es (i + 1)) := by
  obtain ⟨r, hr⟩ := foldB_pre es (i + 1)
  rw [hr, foldB_take_succ h]
  have he := hv i k v h
  have hp1 : posB es (i + 1) = posB es i + ((foldB (es.take i)).enc k v).length := by
    unfold posB
    rw [foldB_take_succ h]
    simp [BB.put]
  rw [hp1]
  refine next_enc _ k v _ r ahead he ?_
  rw [foldB_count, List.length_take]
  have hi : i < es.length := by
    rcases Nat.lt_or_ge i es.length with h' | h'
    · exact h'
    · rw [List.getElem?_eq_none h'] at h; cases h
  rw [Nat.min_eq_left (by omega)]
  intro hc
  obtain ⟨e, h1, h2⟩ := ha hc
  have h0 : 0 < i := by
    rcases Nat.eq_zero_or_pos i with h0 | h0
    · subst h0; simp at hc
    · exact h0
  have := foldB_last h1
  rw [show i - 1 + 1 = i from by omega] at this
  rw [h2, this]
theorem rdB_fold {es : List (L × L)} (hv : ValidB es) : ∀ n, n ≤ es.length → ∃ k, (∀ e, es[n - 1]? = some e → 0 < n → k = e.1) ∧ rdB (foldB es).b n = some (k, posB es n, foldB (es.take n), es.take n) := by
  intro n
  induction n with
  | zero =>
    intro _
    exact ⟨[], fun e h h0 => absurd h0 (by omega), by simp [rdB, posB, foldB, BB.new]⟩
  | succ n ih =>
    intro hn
    obtain ⟨k0, hk0, h0⟩ := ih (by omega)
    have hlt : n < es.length := by omega
    obtain ⟨k, v, he⟩ : ∃ k v, es[n]? = some (k, v) := ⟨es[n].1, es[n].2, List.getElem?_eq_getElem hlt⟩
    refine ⟨k, fun e h _ => ?_, ?_⟩
    · rw [show n + 1 - 1 = n from rfl, he] at h
      injection h with h
      rw [← h]
    · have hnx := next_at hv he k0 (fun hm => by
        have hp : 0 < n := by
          rcases Nat.eq_zero_or_pos n with h | h
          · subst h; simp at hm
          · exact h
        have hl : n - 1 < es.length := by omega
        exact ⟨es[n - 1], List.getElem?_eq_getElem hl, hk0 _ (List.getElem?_eq_getElem hl) hp⟩)
      unfold rdB
      rw [h0]
      simp only []
      rw [hnx]
      simp only []
      rw [if_pos (hv n k v he), foldB_take_succ he, take_snoc he]
theorem foldB_starts (es : List (L × L)) : (foldB es).starts.length = (es.length + 3) / 4 := by
  induction es using snocRec with
  | nil => rfl
  | snoc es e ih =>
    rw [foldB_snoc]
    unfold BB.put
    rw [foldB_count]
    simp only [List.length_append, List.length_cons, List.length_nil]
    split
    · rw [List.length_append, ih]; simp; omega
    · rw [ih]; omega
theorem openB_out {es : List (L × L)} (hv : ValidB es) (hl : es.length < 4294967296) : openB (foldB es).out = some es := by
  have hlen := BB.out_len (foldB es)
  have hst := foldB_starts es
  unfold BB.size at hlen
  have hout : (foldB es).out = ((foldB es).b ++ fours (foldB es).starts) ++ (bigL es.length 4 ++ []) := by
    unfold BB.out fours
    rw [List.flatMap_append]
    simp [foldB_count]
  have hdr : (foldB es).out.drop ((foldB es).out.length - 4) = bigL es.length 4 ++ [] := by
    rw [hlen, hout]
    have : (foldB es).b.length + 4 * ((foldB es).starts.length + 1) - 4 = ((foldB es).b ++ fours (foldB es).starts).length := by rw [List.length_append, fours_len]; omega
    rw [this, List.drop_left]
  unfold openB
  rw [hdr, show (4 : Int) = ((4 : Nat) : Int) from rfl, readBig_big es.length 4 [] (by decide) (by decide) (by simpa using hl)]
  simp only []
  rw [if_neg (by rw [hlen, hst]; omega)]
  have htk : (foldB es).out.take ((foldB es).out.length - 4 * ((es.length + 3) / 4 + 1)) = (foldB es).b := by
    rw [hlen, hst]
    unfold BB.out
    rw [show (foldB es).b.length + 4 * ((es.length + 3) / 4 + 1) - 4 * ((es.length + 3) / 4 + 1) = (foldB es).b.length from by omega, List.take_left]
  rw [htk]
  obtain ⟨k, _, h0⟩ := rdB_fold hv es.length (Nat.le_refl _)
  rw [h0]
  simp
/-- Where the i-th entry that is read begins. -/
def atR (s : L) (i : Nat) : Nat := ((rdB s i).map (·.2.1)).getD 0
def stR (s : L) : Nat → List Nat
  | 0 => []
  | i + 1 => if i % 4 = 0 then stR s i ++ [atR s i] else stR s i
theorem stR_fold {es : List (L × L)} (hv : ValidB es) : ∀ n, n ≤ es.length → stR (foldB es).b n = (foldB (es.take n)).starts := by
  intro n
  induction n with
  | zero => intro _; rfl
  | succ n ih =>
    intro hn
    have ih := ih (by omega)
    obtain ⟨k, _, h0⟩ := rdB_fold hv n (by omega)
    have hlt : n < es.length := by omega
    have he : es[n]? = some es[n] := List.getElem?_eq_getElem hlt
    rw [foldB_take_succ he]
    unfold stR BB.put
    rw [foldB_count, List.length_take, Nat.min_eq_left (by omega), ih]
    unfold atR
    rw [h0]
    rfl
theorem starts_at {es : List (L × L)} : ∀ j, 4 * j < es.length → (foldB es).starts[j]? = some (posB es (4 * j)) := by
  induction es using snocRec with
  | nil => intro j h; simp at h
  | snoc es e ih =>
    intro j h
    simp at h
    rw [foldB_snoc]
    have hs := foldB_starts es
    have hps : 4 * j ≤ es.length → posB (es ++ [e]) (4 * j) = posB es (4 * j) := fun hl => by
      unfold posB
      rw [List.take_append_of_le_length hl]
    unfold BB.put
    rw [foldB_count]
    simp only []
    by_cases hj : 4 * j < es.length
    · rw [hps (by omega)]
      split
      · rw [List.getElem?_append_left (by omega)]
        exact ih j hj
      · exact ih j hj
    · have he : es.length = 4 * j := by omega
      rw [if_pos (by omega), hps (by omega), List.getElem?_append_right (by omega), hs, show j - (es.length + 3) / 4 = 0 from by omega]
      unfold posB
      rw [List.take_of_length_le (by omega)]
      rfl
theorem rdB_le (s : L) : ∀ n k p bb es, rdB s n = some (k, p, bb, es) → p ≤ s.length ∧ (k.length ≤ 1024) ∧ bb.b.length ≤ 2075 * n ∧ bb.starts.length ≤ n ∧ bb.last.length ≤ 1024 ∧ (∀ m ∈ bb.starts, m ≤ 2075 * n) := by
  intro n
  induction n with
  | zero =>
    intro k p bb es h
    simp [rdB] at h
    obtain ⟨rfl, rfl, rfl, rfl⟩ := h
    simp [BB.new]
  | succ n ih =>
    intro k p bb es h
    unfold rdB at h
    split at h
    · cases h
    · rename_i k0 p0 bb0 es0 h0
      obtain ⟨i1, i2, i3, i4, i5, i6⟩ := ih _ _ _ _ h0
      split at h
      · cases h
      · rename_i k1 v1 q1 hn
        split at h
        · rename_i he
          injection h with h
          injection h with ha hb
          injection hb with hb hc
          injection hc with hc hd
          subst ha hb hc hd
          obtain ⟨hk, hv⟩ := err_len he
          have hel := bb0.enc_len k1 v1
          refine ⟨?_, hk, ?_, ?_, hk, ?_⟩
          · unfold nextP at hn
            split at hn
            · cases hn
            · rename_i n1 z hz
              split at hn
              · cases hn
              · split at hn
                · cases hn
                · rename_i rest z1 hz1
                  split at hn
                  · cases hn
                  · rename_i v2 z2 hz2
                    injection hn with hn
                    injection hn with e1 e2
                    injection e2 with e2 e3
                    have := readText_z hz2
                    have := readText_z hz1
                    have := readVar_z hz
                    simp only [List.length_drop] at *
                    omega
          · simp [BB.put]
            omega
          · simp only [BB.put]
            split
            · simp; omega
            · omega
          · simp only [BB.put]
            intro m hm
            split at hm
            · rcases List.mem_append.1 hm with hm | hm
              · have := i6 m hm; omega
              · simp at hm; omega
            · have := i6 m hm; omega
        · cases h
theorem stR_len (s : L) : ∀ n, (stR s n).length ≤ n := by
  intro n
  induction n with
  | zero => exact Nat.le_refl _
  | succ n ih =>
    unfold stR
    split
    · simp; exact ih
    · omega
theorem rdB_succ {s : L} {i : Nat} {k : L} {p : Nat} {bb : BB} {es : List (L × L)} (h : rdB s i = some (k, p, bb, es)) : rdB s (i + 1) = match nextP s p k with
    | none => none
    | some (k, v, q) => if bb.err k v = 0 then some (k, q, bb.put k v, es ++ [(k, v)]) else none := by
  rw [rdB, h]
theorem rdB_stop (s : L) (c : Nat) : ∀ i, i ≤ c → rdB s i = none → rdB s c = none := by
  induction c with
  | zero =>
    intro i hi h
    obtain rfl : i = 0 := by omega
    exact h
  | succ c ih =>
    intro i hi h
    by_cases he : i = c + 1
    · rw [← he]; exact h
    · rw [rdB, ih i (by omega) h]
theorem nextP_len {s : L} {p : Nat} {ahead k v : L} {q : Nat} (h : nextP s p ahead = some (k, v, q)) : k.length ≤ ahead.length + s.length ∧ v.length ≤ s.length := by
  unfold nextP at h
  split at h
  · cases h
  · rename_i n1 z hz
    split at h
    · cases h
    · split at h
      · cases h
      · rename_i rest z1 hz1
        split at h
        · cases h
        · rename_i v2 z2 hz2
          injection h with h
          injection h with e1 e2
          injection e2 with e2 e3
          have h1 := readText_z hz1
          have h2 := readText_z hz2
          have h3 := readText_t hz1
          have h4 := readText_t hz2
          simp only [List.length_drop] at h3 h4
          subst e1 e2
          simp only [List.length_append, List.length_take]
          omega
/-- Is the i-th entry below a key? -/
def belowP (es : List (L × L)) (key : L) (i : Nat) : Bool := match es[i]? with
  | some e => lessL e.1 key
  | none => false
def seekP (es : List (L × L)) (key : L) : Nat := (es.takeWhile fun e => lessL e.1 key).length
theorem seekP_eq (key : L) : ∀ (es : List (L × L)) (i : Nat), (∀ j, j < i → belowP es key j = true) → belowP es key i = false → seekP es key = i
  | [], i, h, h' => by
    rcases Nat.eq_zero_or_pos i with h0 | h0
    · subst h0; rfl
    · have := h 0 h0
      simp [belowP] at this
  | e :: es, 0, h, h' => by
    simp only [belowP, List.getElem?_cons_zero] at h'
    simp [seekP, List.takeWhile_cons, h']
  | e :: es, i + 1, h, h' => by
    have h0 := h 0 (by omega)
    simp only [belowP, List.getElem?_cons_zero] at h0
    have ih := seekP_eq key es i (fun j hj => by
      have := h (j + 1) (by omega)
      simpa [belowP] using this) (by simpa [belowP] using h')
    unfold seekP at ih ⊢
    rw [List.takeWhile_cons, h0]
    simp [ih]
theorem valid_step {es : List (L × L)} (hv : ValidB es) {i : Nat} {a b : L × L} (ha : es[i]? = some a) (hb : es[i + 1]? = some b) : lessL a.1 b.1 = true := by
  have he := hv (i + 1) b.1 b.2 hb
  unfold BB.err at he
  split at he
  · cases he
  · rw [foldB_last ha, foldB_count] at he
    split at he
    · cases he
    · rename_i hh
      rcases hq : lessL a.1 b.1 with _ | _
      · refine absurd ⟨?_, hq⟩ hh
        rw [List.length_take]
        have : i + 1 < es.length := (List.getElem?_eq_some_iff.1 hb).1
        omega
      · rfl
theorem valid_lt {es : List (L × L)} (hv : ValidB es) : ∀ (d i : Nat) {a b : L × L}, es[i]? = some a → es[i + d + 1]? = some b → lessL a.1 b.1 = true
  | 0, i, a, b, ha, hb => valid_step hv ha hb
  | d + 1, i, a, b, ha, hb => by
    have hl : i + d + 1 < es.length := by
      have : i + (d + 1) + 1 < es.length := (List.getElem?_eq_some_iff.1 hb).1
      omega
    have hc : es[i + d + 1]? = some es[i + d + 1] := List.getElem?_eq_getElem hl
    exact less_trans (valid_lt hv d i ha hc) (valid_step hv hc hb)
theorem below_mono {es : List (L × L)} (hv : ValidB es) {key : L} {i j : Nat} (hij : i ≤ j) (h : belowP es key j = true) : belowP es key i = true := by
  unfold belowP at h ⊢
  rcases hj : es[j]? with _ | b
  · rw [hj] at h; cases h
  · rw [hj] at h
    have hl : j < es.length := (List.getElem?_eq_some_iff.1 hj).1
    have hi : es[i]? = some es[i] := List.getElem?_eq_getElem (by omega)
    rw [hi]
    rcases Nat.lt_or_ge i j with hlt | hge
    · have := valid_lt hv (j - i - 1) i hi (by rw [show i + (j - i - 1) + 1 = j from by omega]; exact hj)
      exact less_trans this h
    · obtain rfl : i = j := by omega
      rw [hi] at hj
      injection hj with hj
      simp only [hj]
      exact h
theorem seekP_le (es : List (L × L)) (key : L) : seekP es key ≤ es.length := by
  unfold seekP
  exact (List.takeWhile_sublist _).length_le
end Go.Proofs.YtfnlponoakhegaaDoor
namespace Go.Proofs.YtfnlponoakhegaaDoor
set_option linter.unusedVariables false
set_option linter.unusedSimpArgs false
def escL : L → L
  | [] => []
  | c :: r => if c = 0 then 0 :: 255 :: escL r else c :: escL r
def strKey (k : L) : L := 2 :: (escL k ++ [0, 1])
theorem escL_len : ∀ k : L, (escL k).length ≤ 2 * k.length ∧ k.length ≤ (escL k).length
  | [] => by simp [escL]
  | c :: r => by
    have := escL_len r
    unfold escL
    split <;> simp <;> omega
theorem zero_ne : ([0] : List UInt8) ≠ [] := by simp
theorem esc_repl : ∀ s : L, Lib.replaceK [0] [0, 255] (Lib.count s [0]) s = escL s ∧ Lib.count s [0] ≤ s.length
  | [] => by
    have : Lib.count [] [0] = 0 := Lib.count_miss rfl
    rw [this]
    exact ⟨rfl, Nat.zero_le _⟩
  | c :: t => by
    obtain ⟨ih1, ih2⟩ := esc_repl t
    by_cases hc : c = 0
    · subst hc
      have hi : Lib.index (0 :: t) [0] = ((0 : Nat) : Int) := by simp [Lib.index]
      have hn := Lib.count_hit zero_ne hi
      have hd : (0 :: t).drop (0 + ([0] : L).length) = t := by simp
      rw [hd] at hn
      rw [hn, Nat.add_comm 1, Lib.replaceK_hit _ _ _ _ 0 hi, hd, ih1]
      refine ⟨by simp [escL], by simp; omega⟩
    · have hp : ([0] : L).isPrefixOf (c :: t) = false := by
        simp [List.isPrefixOf]
        exact fun e => hc e.symm
      by_cases hm : Lib.index t [0] = -1
      · have hi : Lib.index (c :: t) [0] = -1 := by
          unfold Lib.index
          rw [hp, if_neg (by decide), hm]
          rfl
        rw [Lib.count_miss hi]
        rw [Lib.count_miss hm] at ih1
        refine ⟨?_, Nat.zero_le _⟩
        have : escL (c :: t) = c :: escL t := by rw [escL, if_neg hc]
        rw [this, ← ih1]
        rfl
      · obtain ⟨i, hi⟩ : ∃ i : Nat, Lib.index t [0] = i := by
          have := Lib.index_ge t [0]
          exact ⟨(Lib.index t [0]).toNat, by omega⟩
        have hi2 : Lib.index (c :: t) [0] = ((i + 1 : Nat) : Int) := by
          unfold Lib.index
          rw [hp, if_neg (by decide), if_neg (by simpa using hm), hi]
          omega
        have hn := Lib.count_hit zero_ne hi
        have hn2 := Lib.count_hit zero_ne hi2
        have hd : (c :: t).drop (i + 1 + ([0] : L).length) = t.drop (i + ([0] : L).length) := by simp
        rw [hd] at hn2
        rw [hn2, Nat.add_comm 1, Lib.replaceK_hit _ _ _ _ (i + 1) hi2, hd]
        rw [hn, Nat.add_comm 1, Lib.replaceK_hit _ _ _ _ i hi] at ih1
        have : escL (c :: t) = c :: escL t := by rw [escL, if_neg hc]
        rw [this, ← ih1]
        refine ⟨by simp, ?_⟩
        rw [hn] at ih2
        show _ ≤ t.length + 1
        omega
theorem repl_esc (s : L) : Lib.replaceAll s [0] [0, 255] = escL s := by
  unfold Lib.replaceAll Lib.replace
  rw [if_neg (by decide)]
  unfold Lib.replaceNum
  rw [if_pos (.inl (by decide))]
  exact (esc_repl s).1
/-- A text's bytes, behind their first one. -/
def rtK : L → L → Option (L × L)
  | [], _ => none
  | [_], _ => none
  | a :: b :: r, acc => if a = 0 then (if b = 1 then some (acc, r) else if b = 255 then rtK r (acc ++ [0]) else none) else rtK (b :: r) (acc ++ [a])
theorem rtK_skip : ∀ (p r acc : L), (∀ c ∈ p, c ≠ 0) → rtK (p ++ 0 :: r) acc = rtK (0 :: r) (acc ++ p)
  | [], r, acc, _ => by simp
  | [a], r, acc, h => by
    have := h a (by simp)
    show rtK (a :: 0 :: r) acc = _
    rw [rtK, if_neg this]
  | a :: b :: p, r, acc, h => by
    have h1 := h a (by simp)
    have ih := rtK_skip (b :: p) r (acc ++ [a]) (fun c hc => h c (by simp at hc ⊢; right; exact hc))
    show rtK (a :: b :: (p ++ 0 :: r)) acc = _
    rw [rtK, if_neg h1]
    rw [show b :: (p ++ 0 :: r) = b :: p ++ 0 :: r from rfl, ih]
    simp
theorem rtK_none : ∀ (p acc : L), (∀ c ∈ p, c ≠ 0) → rtK p acc = none
  | [], _, _ => rfl
  | [_], _, _ => rfl
  | a :: b :: p, acc, h => by
    rw [rtK, if_neg (h a (by simp))]
    exact rtK_none (b :: p) _ (fun c hc => h c (by simp at hc ⊢; right; exact hc))
theorem rtK_last : ∀ (p acc : L), (∀ c ∈ p, c ≠ 0) → rtK (p ++ [0]) acc = none
  | [], _, _ => rfl
  | [a], acc, h => by
    show rtK [a, 0] acc = none
    rw [rtK, if_neg (h a (by simp))]
    rfl
  | a :: b :: p, acc, h => by
    show rtK (a :: b :: (p ++ [0])) acc = none
    rw [rtK, if_neg (h a (by simp))]
    exact rtK_last (b :: p) _ (fun c hc => h c (by simp at hc ⊢; right; exact hc))
theorem rtK_esc : ∀ (k r acc : L), rtK (escL k ++ 0 :: 1 :: r) acc = some (acc ++ k, r)
  | [], r, acc => by simp [escL, rtK]
  | c :: k, r, acc => by
    by_cases hc : c = 0
    · subst hc
      have ih := rtK_esc k r (acc ++ [0])
      unfold escL
      rw [if_pos rfl]
      show rtK (0 :: 255 :: (escL k ++ 0 :: 1 :: r)) acc = _
      rw [rtK, if_pos rfl, if_neg (by decide), if_pos rfl, ih]
      simp
    · have ih := rtK_esc k r (acc ++ [c])
      unfold escL
      rw [if_neg hc]
      have hne : ∃ b t, escL k ++ 0 :: 1 :: r = b :: t := by
        rcases h : escL k with _ | ⟨b, t⟩
        · exact ⟨_, _, rfl⟩
        · exact ⟨b, t ++ 0 :: 1 :: r, rfl⟩
      obtain ⟨b, t, hbt⟩ := hne
      show rtK (c :: (escL k ++ 0 :: 1 :: r)) acc = _
      rw [hbt] at ih ⊢
      rw [rtK, if_neg hc, ih]
      simp
theorem rtK_len : ∀ (s acc t r : L), rtK s acc = some (t, r) → r.length + 2 ≤ s.length ∧ t.length ≤ acc.length + s.length
  | [], _, _, _, h => by cases h
  | [_], _, _, _, h => by cases h
  | a :: b :: s, acc, t, r, h => by
    rw [rtK] at h
    split at h
    · split at h
      · injection h with h
        injection h with h1 h2
        subst h1 h2
        simp
      · split at h
        · have := rtK_len s _ t r h
          simp at this ⊢; omega
        · cases h
    · have := rtK_len (b :: s) _ t r h
      simp at this ⊢; omega
structure Pt where
  text : Bool
  s : L
  n : Nat
def partsF : Nat → L → List Pt → Option (List Pt)
  | _, [], out => some out
  | 0, _ :: _, _ => none
  | f + 1, c :: r, out => if c = 1 then (match readVar r with
      | none => none
      | some (n, z) => partsF f (r.drop z) (out ++ [⟨false, [], n⟩]))
    else if c = 2 then (match rtK r [] with
      | none => none
      | some (t, rest) => partsF f rest (out ++ [⟨true, t, 0⟩]))
    else none
def partsP (k : L) : Option (List Pt) := partsF k.length k []
theorem partsP_str (k : L) : partsP (strKey k) = some [⟨true, k, 0⟩] := by
  unfold partsP strKey
  rw [List.length_cons, partsF, if_neg (by decide), if_pos rfl, show escL k ++ [0, 1] = escL k ++ 0 :: 1 :: [] from rfl, rtK_esc]
  simp [partsF]
/-- A table's entry. -/
structure Ent where
  key : L
  value : L
  seq : Nat
  gone : Bool
def internalL (key : L) (seq : Nat) : L := strKey key ++ bigL (18446744073709551615 - seq) 8
def entryP (k v : L) : Option Ent := if k.length < 8 ∨ v = [] then none else
  match partsP (k.take (k.length - 8)) with
  | some [p] => some ⟨p.s, v.drop 1, 18446744073709551615 - beV (k.drop (k.length - 8)), v.take 1 == [1]⟩
  | _ => none
def rowK (e : Ent) : L := internalL e.key e.seq
def rowV (e : Ent) : L := (if e.gone then 1 else 0) :: e.value
theorem entryP_row (e : Ent) (h : e.seq ≤ 18446744073709551615) : entryP (rowK e) (rowV e) = some e := by
  have hl : (rowK e).length - 8 = (strKey e.key).length := by unfold rowK internalL; rw [List.length_append, bigL_len]; omega
  unfold entryP
  rw [if_neg (by unfold rowV rowK internalL; rw [List.length_append, bigL_len]; simp), hl]
  unfold rowK internalL
  rw [List.take_left, List.drop_left, partsP_str]
  simp only []
  rw [beV_big, Nat.mod_eq_of_lt (by omega)]
  unfold rowV
  obtain ⟨k, v, q, g⟩ := e
  cases g <;> simp at h ⊢ <;> omega
theorem internalL_len (k : L) (q : Nat) : (internalL k q).length ≤ 2 * k.length + 11 := by
  have := escL_len k
  unfold internalL strKey
  rw [List.length_append, bigL_len]
  simp
  omega
end Go.Proofs.YtfnlponoakhegaaDoor
namespace Go.Proofs.YtfnlponoakhegaaDoor
open Go.RowKit
set_option linter.unusedVariables false
set_option linter.unusedSimpArgs false

theorem block_of_add (a : Addr) (n : Nat) : (a.add n).block = a.block := by unfold Addr.add; split <;> rfl
theorem add_of_add (a : Addr) (i j : Nat) : (a.add i).add j = a.add (i + j) := by
  unfold Addr.add
  by_cases hi : i = 0 <;> by_cases hj : j = 0 <;> simp [hi, hj, Nat.add_assoc]

def Reads (w : World) (B size : Nat) (A : Option Addr) (n : Nat) (xs : List Value) : Prop :=
  xs.length = n * size ∧ (0 < n → ∃ ad, A = some ad ∧ ad.block < B ∧ ∀ j u, xs[j]? = some u → w.cell? (ad.add j) = some u)

section
variable {w w' : World} {B B' size n : Nat} {A : Option Addr} {xs : List Value}
theorem Reads.none_ : Reads w B size A 0 [] := ⟨by simp, fun h => absurd h (by omega)⟩
theorem Reads.at_ {k : Nat} (h : Reads w B 1 A n xs) (hk : k < n) : ∃ ad u, A = some ad ∧ ad.block < B ∧ xs[k]? = some u ∧ w.cell? (ad.add k) = some u := by
  obtain ⟨ad, e, hb, hc⟩ := h.2 (by omega)
  have hl : k < xs.length := by have := h.1; omega
  exact ⟨ad, xs[k], e, hb, List.getElem?_eq_getElem hl, hc k _ (List.getElem?_eq_getElem hl)⟩
theorem Reads.keep (h : Reads w B size A n xs) (hk : ∀ p : Addr, p.block < B → w'.cell? p = w.cell? p) : Reads w' B size A n xs :=
  ⟨h.1, fun hn => by
    obtain ⟨ad, e, hb, hc⟩ := h.2 hn
    exact ⟨ad, e, hb, fun j u hu => (hk _ (by rw [block_of_add]; exact hb)).trans (hc j u hu)⟩⟩
theorem Reads.more (h : Reads w B size A n xs) (hB : B ≤ B') : Reads w B' size A n xs :=
  ⟨h.1, fun hn => by
    obtain ⟨ad, e, hb, hc⟩ := h.2 hn
    exact ⟨ad, e, by omega, hc⟩⟩
theorem Reads.below (h : Reads w B size A n xs) (hb : Below B w w') : Reads w' B size A n xs := h.keep fun _ hp => hb.cell hp
theorem Reads.drew (h : Reads w B size A n xs) : Reads w.drew B size A n xs := h
theorem Reads.drewN (h : Reads w B size A n xs) (k : Nat) : Reads (w.drewN k) B size A n xs := h
theorem Reads.alloc (h : Reads w B size A n xs) (hB : B ≤ w.heap.size) (o : Obj) : Reads (w.alloc o) B size A n xs := h.keep fun p hp => World.cell?_alloc_lt w o p (by omega)
theorem Reads.setCell (h : Reads w B size A n xs) {p : Addr} (hB : B ≤ p.block) (u : Value) : Reads (w.setCell p u) B size A n xs :=
  h.keep fun q hq => World.cell?_setCell_other w p q u (fun e => by subst e; omega)
theorem Reads.grown (h : Reads w B size A n xs) {row : Option Nat} (hg : w.grownBy w' row) (hB : B ≤ w.heap.size) (hr : ∀ g, row = some g → B ≤ g) : Reads w' B size A n xs :=
  h.keep fun p hp => World.cell?_of_block (hg.block p.block (by omega) (fun e => by have := hr _ e.symm; omega))
theorem Reads.cut (h : Reads w B size A n xs) {k cap : Nat} (hk : k ≤ n) (hc : n ≤ cap) :
    Reads w B size (if cap = k then A else A.map (·.add (k * size))) (n - k) (xs.drop (k * size)) := by
  refine ⟨by rw [List.length_drop, h.1, Nat.sub_mul], fun hn => ?_⟩
  obtain ⟨ad, rfl, hb, hcell⟩ := h.2 (by omega)
  rw [if_neg (by omega)]
  refine ⟨ad.add (k * size), rfl, by rw [block_of_add]; exact hb, fun j u hu => ?_⟩
  rw [add_of_add]
  exact hcell _ u (by rw [← hu, List.getElem?_drop])
theorem Reads.of_own {base : Nat} {e : TypeId} {c : Nat} (h : w.ownsRow base e size (.slice A n c) n xs) : Reads w w.heap.size size A n xs := by
  refine ⟨h.1, fun hn => ?_⟩
  obtain ⟨g, cap, hv, _, hlt⟩ := h.form hn
  have hA : A = some ⟨g, 0, none⟩ := by injection hv
  subst hA
  exact ⟨_, rfl, hlt, h.cells (g := g) rfl⟩
end

def Blk (w : World) (g : Nat) (t : TypeId) (cs : Array Value) : Prop := w.heap[g]? = some (.cells cs t (0, 0))

section
variable {w w' : World} {g : Nat} {t : TypeId} {cs : Array Value}
theorem Blk.lt (h : Blk w g t cs) : g < w.heap.size := by
  rcases Nat.lt_or_ge g w.heap.size with hlt | hge
  · exact hlt
  · unfold Blk at h; rw [Array.getElem?_eq_none hge] at h; cases h
theorem Blk.cell (h : Blk w g t cs) (i : Nat) : w.cell? ⟨g, i, none⟩ = cs[i]? := cell_of_row w g i cs t (0, 0) h
theorem Blk.frozen (h : Blk w g t cs) (i : Nat) : w.frozen? ⟨g, i, none⟩ = false := by
  unfold Blk at h
  simp [World.frozen?, h]
theorem Blk.new (w : World) (t : TypeId) (cs : Array Value) : Blk (w.alloc (.cells cs t)) w.heap.size t cs := heap_alloc_new w _
theorem Blk.drew (h : Blk w g t cs) : Blk w.drew g t cs := h
theorem Blk.drewN (h : Blk w g t cs) (n : Nat) : Blk (w.drewN n) g t cs := h
theorem Blk.alloc (h : Blk w g t cs) (o : Obj) : Blk (w.alloc o) g t cs := (Below.heap_alloc w o g h.lt).trans h
theorem Blk.set_ (h : Blk w g t cs) (i : Nat) (u : Value) : Blk (w.setCell ⟨g, i, none⟩ u) g t (cs.setIfInBounds i u) := by
  unfold Blk at h ⊢
  simp [World.setCell, Array.getElem?_modify, h]
theorem Blk.far (h : Blk w g t cs) {p : Addr} (hp : g ≠ p.block) (u : Value) : Blk (w.setCell p u) g t cs := (Below.heap_setCell w p u g hp).trans h
theorem Blk.below {B : Nat} (h : Blk w g t cs) (hb : Below B w w') (hg : g < B) : Blk w' g t cs := (hb.block g hg).trans h
theorem Blk.grown {row : Option Nat} (h : Blk w g t cs) (hb : w.grownBy w' row) (hg : some g ≠ row) : Blk w' g t cs := (hb.block g h.lt hg).trans h
theorem Blk.ne_ {g' : Nat} {t' : TypeId} {cs' : Array Value} (h : Blk w g t cs) (h' : Blk w g' t' cs') (hne : t ≠ t') : g ≠ g' := by
  rintro rfl
  unfold Blk at h h'
  rw [h] at h'
  injection h' with h'
  injection h' with _ ht
  exact hne ht
theorem own_blk_ne {base : Nat} {e : TypeId} {size n : Nat} {v : Value} {xs : List Value} (h : w.ownsRow base e size v n xs) (hg : Blk w g t cs) (hne : e ≠ t) : v.ownBlock ≠ some g := by
  rcases h.2 with ⟨rfl, _⟩ | ⟨g', cap, cur, rfl, _, hh, _⟩
  · simp [Value.ownBlock]
  · intro he
    have : g' = g := by simpa [Value.ownBlock] using he
    subst this
    exact Blk.ne_ (t := e) hh hg hne rfl
end

section
variable {P : Program} (w : World)

theorem run_append_of_nil (base : Nat) (t ty e : TypeId) (i : TypeInfo) (size : Nat) (ht : P.underlying t = some (.slice e)) (hi : P.info? e = some i)
    (v : Value) (n : Nat) (xs : List Value) (hown : w.ownsRow base e size v n xs) (c : Nat) : (Builtin.append_ #[t, t] ty #[v, .slice none 0 c]).run P w = .ok v w := by
  rcases hown.2 with ⟨rfl, rfl⟩ | ⟨g, cap, cur, rfl, _, _, hnc, _⟩
  · simp [Builtin.append_, run_underlying ht, sizeOf, typeInfo, hi, Builtin.lenOf, Builtin.firstCells]
  · simp [Builtin.append_, run_underlying ht, sizeOf, typeInfo, hi, Builtin.lenOf, Builtin.firstCells, hnc, storeCells]

theorem run_append_any (base : Nat) (t ty e : TypeId) (i : TypeInfo) (z : Value) (size bytes : Nat) (ht : P.underlying t = some (.slice e)) (hi : P.info? e = some i) (hz : i.zero = some z)
    (hsize : i.size = size) (hby : i.bytes = bytes) (hzs : z.cells.size = size) (hsz : 0 < size)
    (v : Value) (n : Nat) (xs : List Value) (hown : w.ownsRow base e size v n xs)
    (B : Nat) (A : Option Addr) (m c : Nat) (news : List Value) (hr : Reads w B size A m news) (h1 : ∀ u ∈ news, u.oneCell' = true)
    (h63 : n + m ≤ maxLen) (hbytes : (n + m) * bytes ≤ 140737488355328) (hbase : base ≤ w.heap.size) :
    ∃ v' w', (Builtin.append_ #[t, t] ty #[v, .slice A m c]).run P w = .ok v' w' ∧ w'.ownsRow base e size v' (n + m) (xs ++ news) ∧ w.grownBy w' v.ownBlock ∧
      (v'.ownBlock = v.ownBlock ∨ v'.ownBlock = some w.heap.size) := by
  rcases A with _ | ad
  · have hm : m = 0 := by
      rcases Nat.eq_zero_or_pos m with h0 | h0
      · exact h0
      · obtain ⟨ad, h, _⟩ := hr.2 h0
        cases h
    subst hm
    have hn : news = [] := List.eq_nil_of_length_eq_zero (by simpa using hr.1)
    subst hn
    exact ⟨v, w, run_append_of_nil w base t ty e i size ht hi v n xs hown c, by simpa using hown, World.grownBy.refl w _, .inl rfl⟩
  · have hcells : ∀ j u, news[j]? = some u → w.cell? (ad.add j) = some u := by
      intro j u hu
      rcases Nat.eq_zero_or_pos m with h0 | h0
      · subst h0
        have hn : news = [] := List.eq_nil_of_length_eq_zero (by simpa using hr.1)
        subst hn
        simp at hu
      · obtain ⟨ad', h, _, hc⟩ := hr.2 h0
        injection h with h
        subst h
        exact hc j u hu
    obtain ⟨v', w', hrun, h2, h3, _, h5⟩ := run_append_own_at (P := P) w base t ty e i z size bytes ht hi hz hsize hby hzs hsz v n xs hown ad m c news hr.1 hcells h1 h63 hbytes hbase
    exact ⟨v', w', hrun, h2, h3, h5⟩

theorem wp_append_any {o : Oper} {a : Act} {K : Act → World → Prop} {Q : Exit → Act → World → Prop} (s x : Operand) (t : TypeId)
    (ho : o.op = .call { callee := .builtin .append, args := #[s, x], argTypes := #[t, t] })
    (base : Nat) (e : TypeId) (i : TypeInfo) (z : Value) (size bytes : Nat) (ht : P.underlying t = some (.slice e)) (hi : P.info? e = some i) (hz : i.zero = some z)
    (hsize : i.size = size) (hby : i.bytes = bytes) (hzs : z.cells.size = size) (hsz : 0 < size)
    (v : Value) (n : Nat) (xs : List Value) (hs : a.eval s = v) (hown : w.ownsRow base e size v n xs)
    (B : Nat) (A : Option Addr) (m c : Nat) (news : List Value) (hx : a.eval x = .slice A m c) (hr : Reads w B size A m news) (h1 : ∀ u ∈ news, u.oneCell' = true)
    (h63 : n + m ≤ maxLen) (hbytes : (n + m) * bytes ≤ 140737488355328) (hbase : base ≤ w.heap.size)
    (h : ∀ v' w', w'.ownsRow base e size v' (n + m) (xs ++ news) → w.grownBy w' v.ownBlock → (v'.ownBlock = v.ownBlock ∨ v'.ownBlock = some w.heap.size) → K (a.put o.dst v') w') : o.wp P a w K Q := by
  obtain ⟨v', w', hrun, h2, h3, h4⟩ := run_append_any (P := P) w base t o.type e i z size bytes ht hi hz hsize hby hzs hsz v n xs hown B A m c news hr h1 h63 hbytes hbase
  unfold Oper.wp execOp
  simp only [ho, resolve, invoke, builtin, Sem.run_bind, Sem.run_pure, Result.andThen_ok, List.map_toArray, List.map_cons, List.map_nil, hs, hx, hrun]
  exact h v' w' h2 h3 h4

theorem wpList_append_any {ops : Array Oper} {rest : List Oper} {o : Oper} {a : Act} {Q : Exit → Act → World → Prop} (hgd : o.guard = none) (s x : Operand) (t : TypeId)
    (ho : o.op = .call { callee := .builtin .append, args := #[s, x], argTypes := #[t, t] })
    (base : Nat) (e : TypeId) (i : TypeInfo) (z : Value) (size bytes : Nat) (ht : P.underlying t = some (.slice e)) (hi : P.info? e = some i) (hz : i.zero = some z)
    (hsize : i.size = size) (hby : i.bytes = bytes) (hzs : z.cells.size = size) (hsz : 0 < size)
    (v : Value) (n : Nat) (xs : List Value) (hs : a.eval s = v) (hown : w.ownsRow base e size v n xs)
    (B : Nat) (A : Option Addr) (m c : Nat) (news : List Value) (hx : a.eval x = .slice A m c) (hr : Reads w B size A m news) (h1 : ∀ u ∈ news, u.oneCell' = true)
    (h63 : n + m ≤ maxLen) (hbytes : (n + m) * bytes ≤ 140737488355328) (hbase : base ≤ w.heap.size)
    (h : ∀ v' w', w'.ownsRow base e size v' (n + m) (xs ++ news) → w.grownBy w' v.ownBlock → (v'.ownBlock = v.ownBlock ∨ v'.ownBlock = some w.heap.size) → wpList P ops Q rest (a.put o.dst v') w') : wpList P ops Q (o :: rest) a w :=
  wpList_plain hgd fun _ hK => wp_append_any w s x t ho base e i z size bytes ht hi hz hsize hby hzs hsz v n xs hs hown B A m c news hx hr h1 h63 hbytes hbase fun v' w' h2 h3 h4 => hK _ _ (h v' w' h2 h3 h4)

theorem step_append_any {ops : Array Oper} {o : Oper} {a : Act} {K : Act → World → Prop} {Q : Exit → Act → World → Prop} {E : Prop} (hgd : o.guard = none) (s x : Operand) (t : TypeId)
    (ho : o.op = .call { callee := .builtin .append, args := #[s, x], argTypes := #[t, t] })
    (base : Nat) (e : TypeId) (i : TypeInfo) (z : Value) (size bytes : Nat) (ht : P.underlying t = some (.slice e)) (hi : P.info? e = some i) (hz : i.zero = some z)
    (hsize : i.size = size) (hby : i.bytes = bytes) (hzs : z.cells.size = size) (hsz : 0 < size)
    (v : Value) (n : Nat) (xs : List Value) (hs : a.eval s = v) (hown : w.ownsRow base e size v n xs)
    (B : Nat) (A : Option Addr) (m c : Nat) (news : List Value) (hx : a.eval x = .slice A m c) (hr : Reads w B size A m news) (h1 : ∀ u ∈ news, u.oneCell' = true)
    (h63 : n + m ≤ maxLen) (hbytes : (n + m) * bytes ≤ 140737488355328) (hbase : base ≤ w.heap.size)
    (h : ∀ v' w', w'.ownsRow base e size v' (n + m) (xs ++ news) → w.grownBy w' v.ownBlock → (v'.ownBlock = v.ownBlock ∨ v'.ownBlock = some w.heap.size) → K (a.put o.dst v') w') :
    if Region.wanted o (yielded ops a.tmps) = true then Oper.wp P o a w K Q else E := by
  have hw : Region.wanted o (yielded ops a.tmps) = true := by simp [Region.wanted, hgd]
  rw [if_pos hw]
  exact wp_append_any w s x t ho base e i z size bytes ht hi hz hsize hby hzs hsz v n xs hs hown B A m c news hx hr h1 h63 hbytes hbase h
end

/-- Two growths of one row, one behind the other. -/
theorem grownBy_trans2 {w w' w'' : World} {v v' : Value} (h : w.grownBy w' v.ownBlock) (hv : v'.ownBlock = v.ownBlock ∨ v'.ownBlock = some w.heap.size) (h' : w'.grownBy w'' v'.ownBlock) : w.grownBy w'' v.ownBlock :=
  ⟨h'.os.trans h.os, h'.tape.trans h.tape, h'.output.trans h.output, Nat.le_trans h.size h'.size, fun k hk hne => by
    rw [h'.block k (Nat.lt_of_lt_of_le hk h.size) (by
      rcases hv with e | e
      · rw [e]; exact hne
      · rw [e]; intro hs; injection hs with hs; omega), h.block k hk hne]⟩

/-- What a growth of an own row does to memory. 'Grew w w' v v'': no block but v's has turned, and v' lies where v lay or in a new block. -/
structure Grew (w w' : World) (v v' : Value) : Prop where
  by_ : w.grownBy w' v.ownBlock
  at_ : v'.ownBlock = v.ownBlock ∨ ∃ g, v'.ownBlock = some g ∧ w.heap.size ≤ g
theorem Grew.refl (w : World) (v : Value) : Grew w w v v := ⟨World.grownBy.refl w _, .inl rfl⟩
theorem Grew.trans {w w' w'' : World} {v v' v'' : Value} (h : Grew w w' v v') (h' : Grew w' w'' v' v'') : Grew w w'' v v'' :=
  ⟨⟨h'.by_.os.trans h.by_.os, h'.by_.tape.trans h.by_.tape, h'.by_.output.trans h.by_.output, Nat.le_trans h.by_.size h'.by_.size, fun k hk hne => by
    rw [h'.by_.block k (Nat.lt_of_lt_of_le hk h.by_.size) (by
      rcases h.at_ with e | ⟨g, e, hg⟩
      · rw [e]; exact hne
      · rw [e]; intro hs; injection hs with hs; omega), h.by_.block k hk hne]⟩, by
    rcases h'.at_ with e | ⟨g, e, hg⟩
    · rw [e]; exact h.at_
    · exact .inr ⟨g, e, Nat.le_trans h.by_.size hg⟩⟩
theorem Grew.alloc {w w' : World} {v v' : Value} (h : Grew w w' v v') (o : Obj) : Grew w (w'.alloc o) v v' :=
  ⟨⟨h.by_.os, h.by_.tape, h.by_.output, Nat.le_trans h.by_.size (by simp), fun k hk hne => (Below.heap_alloc _ _ _ (Nat.lt_of_lt_of_le hk h.by_.size)).trans (h.by_.block k hk hne)⟩, h.at_⟩
theorem Grew.drew {w w' : World} {v v' : Value} (h : Grew w w' v v') : Grew w w'.drew v v' := ⟨⟨h.by_.os, h.by_.tape, h.by_.output, h.by_.size, h.by_.block⟩, h.at_⟩
theorem Grew.of_alloc {w w' : World} {v v' : Value} {o : Obj} (hv : ∀ k, v.ownBlock = some k → k < w.heap.size) (h : Grew (w.alloc o) w' v v') : Grew w w' v v' :=
  ⟨⟨h.by_.os, h.by_.tape, h.by_.output, Nat.le_trans (by simp) h.by_.size, fun k hk hne => (h.by_.block k (by simp; omega) hne).trans (Below.heap_alloc _ _ _ hk)⟩, by
    rcases h.at_ with e | ⟨g, e, hg⟩
    · exact .inl e
    · exact .inr ⟨g, e, by simp at hg; omega⟩⟩
theorem Grew.of_drew {w w' : World} {v v' : Value} (h : Grew w.drew w' v v') : Grew w w' v v' := ⟨⟨h.by_.os, h.by_.tape, h.by_.output, h.by_.size, h.by_.block⟩, h.at_⟩
theorem Grew.of_law {w w' : World} {v v' : Value} (hg : w.grownBy w' v.ownBlock) (hat : v'.ownBlock = v.ownBlock ∨ v'.ownBlock = some w.heap.size) : Grew w w' v v' :=
  ⟨hg, hat.elim .inl fun e => .inr ⟨_, e, Nat.le_refl _⟩⟩
/-- Below a base that the row lies above, nothing has turned. -/
theorem Grew.below {w w' : World} {v v' : Value} {B : Nat} (h : Grew w w' v v') (hB : B ≤ w.heap.size) (hv : ∀ k, v.ownBlock = some k → B ≤ k) : Below B w w' :=
  (Below.refl B w).grown h.by_ hB hv

/-- Bytes that the call owns. -/
def B8 (c : UInt8) : Value := .int .u8 (c.toNat : Int)
def OwnB (w : World) (base : Nat) (v : Value) (l : List UInt8) : Prop := w.ownsRow base 5 1 v l.length (l.map B8)
theorem OwnB.nil (w : World) (base : Nat) : OwnB w base (.slice none 0 0) [] := World.ownsRow_nil w base _ 1
theorem OwnB.lt {w : World} {base : Nat} {v : Value} {l : List UInt8} (h : OwnB w base v l) : ∀ k, v.ownBlock = some k → base ≤ k ∧ k < w.heap.size := World.ownsRow.lt h
theorem OwnB.alloc {w : World} {base : Nat} {v : Value} {l : List UInt8} (h : OwnB w base v l) (o : Obj) : OwnB (w.alloc o) base v l := World.ownsRow.alloc h o
theorem OwnB.drew {w : World} {base : Nat} {v : Value} {l : List UInt8} (h : OwnB w base v l) : OwnB w.drew base v l := h
theorem OwnB.form {w : World} {base : Nat} {v : Value} {l : List UInt8} (h : OwnB w base v l) : ∃ A cap, v = .slice A l.length cap := by
  rcases h.2 with ⟨rfl, e⟩ | ⟨g, cap, cur, rfl, _⟩
  · exact ⟨none, 0, by rw [e]⟩
  · exact ⟨_, cap, rfl⟩
theorem OwnB.reads {w : World} {base : Nat} {A : Option Addr} {c n : Nat} {l : List UInt8} (h : OwnB w base (.slice A n c) l) : n = l.length ∧ Reads w w.heap.size 1 A l.length (l.map B8) := by
  obtain ⟨A', cap, e⟩ := h.form
  injection e with e1 e2 e3
  subst e1 e2 e3
  exact ⟨rfl, Reads.of_own h⟩
theorem OwnB.of_law {w : World} {base : Nat} {v : Value} {l m : List UInt8} {n : Nat} (h : w.ownsRow base 5 1 v n (l.map B8 ++ m.map B8)) : OwnB w base v (l ++ m) := by
  have hl : n = (l ++ m).length := by have := h.1; simp at this; simp; omega
  subst hl
  unfold OwnB
  rw [List.map_append]
  exact h
/-- A byte in a new block. -/
theorem new_byte (w : World) (X : Int) (c : UInt8) (t : TypeId) (h : X = ((c.toNat : Nat) : Int)) : Reads (w.alloc (.cells #[.int .u8 X] t)) (w.heap.size + 1) 1 (some ⟨w.heap.size, 0, none⟩) 1 [B8 c] := by
  refine ⟨rfl, fun _ => ⟨_, rfl, by simp, fun j u hu => ?_⟩⟩
  cases j with
  | zero =>
    simp at hu
    subst hu
    simp only [Addr.add, if_true]
    rw [World.cell?_alloc_new, h]
    rfl
  | succ j => simp at hu
/-- Own bytes az a text. -/
theorem empty_bytes : ByteArray.empty = ⟨([] : List UInt8).toArray⟩ := rfl
set_option maxRecDepth 100000 in
theorem OwnB.text {w : World} {base : Nat} {v : Value} {l : List UInt8} (h : OwnB w base v l) : (convert 34 9 v).run Tryd.prog w = .ok (.string ⟨l.toArray⟩) w := by
  rcases h.2 with ⟨rfl, e⟩ | ⟨g, cap, cur, rfl, hb, hg, hle, hcap, hs, hx⟩
  · have hl : l = [] := List.eq_nil_of_length_eq_zero e
    subst hl
    have h0 := run_convert_bytes_nil (P := Tryd.prog) w 34 5 Tryd.underlying34 Tryd.underlying5 0 0 9 Tryd.underlying9
    rw [h0, empty_bytes]
  · have := run_convert_bytes_arg (P := Tryd.prog) w 34 5 Tryd.underlying34 Tryd.underlying5 g 0 l.length cap (l.map fun c => (c.toNat : Int)) (by simp) (fun i hi => by
      have hc := World.ownsRow.cellAt h i (by simpa using hi)
      rw [Nat.zero_add, hc]
      simp [B8, List.getD, hi]) 9 Tryd.underlying9
    rw [this]
    congr 2
    unfold strOfNums
    congr 1
    simp [List.map_map, Function.comp_def]
theorem u8_info : (Tryd.prog.info? 5).map (fun i => (i.zero, i.size, i.bytes)) = some (some (.int .u8 0), 1, 1) := by kernel_rfl
end Go.Proofs.YtfnlponoakhegaaDoor
namespace Go.Proofs.YtfnlponoakhegaaDoor
open Go.RowKit
set_option linter.unusedVariables false
set_option linter.unusedSimpArgs false

set_option maxHeartbeats 400000 in
theorem behind_any (n : Int) (w : World) (h0 : 0 ≤ n) (h : n ≤ 18446744073709551615) :
    Calls Tryd.prog 76 #[.int .u64 n] w fun e w' => e = .returned (.int .i64 (behindN n.toNat)) ∧ w = w' := by
  go_enter Tryd.func76, Tryd.ntmps76
  by_cases h1 : n < 248
  · go_wp2
    go_ret
    exact ⟨by unfold behindN; rw [if_pos (by omega)]; rfl, rfl⟩
  · have hb := bitLen_le64 n.toNat
    go_wp2_with (go_at_call 65; refine (Tryd.bits_Len64 n _ (by omega) (by omega)).mono ?_; rintro e w' ⟨rfl, rfl⟩)
    go_ret
    exact ⟨congrArg (fun x => Ending.returned (Value.int .i64 x)) (by unfold behindN; rw [if_neg (by omega)]; omega), rfl⟩

set_option maxRecDepth 100000 in
set_option maxHeartbeats 1000000 in
theorem put_any (base : Nat) (v : Value) (l : List UInt8) (n : Int) (width : Nat) (w : World) (hn0 : 0 ≤ n) (hn : n ≤ 18446744073709551615) (hw : width ≤ 8) (hown : OwnB w base v l) (hbase : base ≤ w.heap.size) (hlen : l.length ≤ 70368744177664) :
    Calls Tryd.prog 66 #[v, .int .u64 n, .int .i64 width] w fun e w' => ∃ v', e = .returned v' ∧ OwnB w' base v' (l ++ bigL n.toNat width) ∧ Grew w w' v v' := by
  obtain ⟨i0, hi0, hz0, hz1, hz2⟩ := info_parts u8_info
  go_enter Tryd.func66, Tryd.ntmps66
  go_wp2
  go_loopw [0, 7] (fun b i wr => ∃ (k : Nat) (l' : List UInt8), k ≤ width ∧ i = .int .i64 ((k : Int) - 1) ∧ OwnB wr base b l' ∧ l' ++ bigL n.toNat k = l ++ bigL n.toNat width ∧ l'.length + k = l.length + width ∧ Grew w wr v b) (fun _ i _ => (intOf i + 1).toNat)
  case atStart => exact ⟨width, l, Nat.le_refl _, rfl, hown, rfl, rfl, Grew.refl _ _⟩
  case round =>
    obtain ⟨k, l', hk, rfl, ho, hl, hll, hg⟩ := hrel
    by_cases hlt : 1 ≤ k
    · obtain ⟨k, rfl⟩ : ∃ j, k = j + 1 := ⟨k - 1, by omega⟩
      have hX := byte_of n hn0 k
      replace hX := Lib.hid hX
      go_wp2_with (at_builtin; refine wpList_append_any _ rfl (.tmp 14) (.tmp 20) _ rfl base 5 i0 _ 1 1 Tryd.underlying34 hi0 hz0 hz1 hz2 rfl (by omega) _ l'.length (l'.map B8) rfl (ho.alloc _) (wr.heap.size + 1) (some ⟨wr.heap.size, 0, none⟩) 1 1 [B8 (UInt8.ofNat (n.toNat / 256 ^ k))] rfl ?c0 ?c1 ?c2 ?c3 ?c4 ?_; rotate_left 5; intro v2 w2 ho2 hg2 hat2)
      case c0 => exact ⟨rfl, fun _ => ⟨_, rfl, by simp, fun j u hu => by cases j with | zero => (simp at hu; subst hu; simp [Addr.add, B8, hX.out]) | succ j => simp at hu⟩⟩
      case c1 => intro u hu; simp at hu; subst hu; rfl
      case c2 => simp only [maxLen]; omega
      case c3 => omega
      case c4 => have := hg.by_.size; simp; omega
      refine ⟨⟨k, l' ++ [UInt8.ofNat (n.toNat / 256 ^ k)], by omega, rfl, OwnB.of_law ho2, ?_, ?_, hg.trans ((Grew.of_law hg2 hat2).of_alloc fun k hk => (ho.lt k hk).2)⟩, by simp [intOf]⟩
      · have hl' : l' ++ bigL n.toNat (k + 1) = l ++ bigL n.toNat width := hl
        rw [← hl']; simp [bigL]
      · have hll' : l'.length + (k + 1) = l.length + width := hll
        simp; omega
    · obtain rfl : k = 0 := by omega
      go_wp2
      go_ret
      exact ⟨_, rfl, by rw [← hl]; simpa [bigL] using ho, hg⟩

def U64 (n : Int) : Prop := 0 ≤ n ∧ n ≤ 18446744073709551615
set_option maxRecDepth 100000 in
set_option maxHeartbeats 2000000 in
theorem Var_any (A : Option Addr) (ns : List Int) (cap : Nat) (w : World) (hr : Reads w w.heap.size 1 A ns.length (ns.map (Value.int .u64))) (hns : ∀ n ∈ ns, U64 n) (hlen : ns.length ≤ 4294967296) :
    Calls Tryd.prog 52 #[.slice A ns.length cap] w fun e w' => e = .returned (.string ⟨(varL (ns.map Int.toNat)).toArray⟩) ∧ Below w.heap.size w w' := by
  obtain ⟨i0, hi0, hz0, hz1, hz2⟩ := info_parts u8_info
  go_enter Tryd.func52, Tryd.ntmps52
  go_wp2
  go_loopw [3, 9] (fun b i wr => ∃ (k : Nat), k ≤ ns.length ∧ i = .int .i64 k ∧ OwnB wr w.heap.size b (varL ((ns.take k).map Int.toNat)) ∧ Below w.heap.size w wr) (fun _ i _ => ns.length - (intOf i).toNat)
  case atStart => exact ⟨0, Nat.zero_le _, rfl, OwnB.nil _ _, Below.refl _ _⟩
  case round =>
    obtain ⟨k, hk, rfl, ho, hb0⟩ := hrel
    by_cases hlt : k < ns.length
    · obtain ⟨ad, v, rfl, hab, hx, hc⟩ := (hr.below hb0).at_ hlt
      obtain ⟨n, hn, rfl⟩ : ∃ n, ns[k]? = some n ∧ v = .int .u64 n := by
        simp at hx
        obtain ⟨n, h1, rfl⟩ := hx
        exact ⟨n, h1, rfl⟩
      obtain ⟨n0, n1⟩ := hns n (List.mem_of_getElem? hn)
      clear hx
      have hll : (varL ((ns.take k).map Int.toNat)).length ≤ 9 * k := by
        have h := varL_len ((ns.take k).map Int.toNat)
        rw [List.length_map, List.length_take] at h
        omega
      have hz := hb0.size
      have hsn : varL ((ns.take (k + 1)).map Int.toNat) = varL ((ns.take k).map Int.toNat) ++ varL1 n.toNat := by
        rw [List.take_succ_eq_append_getElem hlt, List.map_append, List.map_cons, List.map_nil, varL_snoc, show ns[k] = n from by have := List.getElem?_eq_getElem hlt; rw [this] at hn; simpa using hn]
      replace hn := Lib.hid hn
      replace hsn := Lib.hid hsn
      generalize hL : varL ((ns.take k).map Int.toNat) = L at *
      replace hL := Lib.hid hL
      go_wp2_with fail
      refine (behind_any n _ n0 n1).mono ?_
      rintro e w' ⟨rfl, rfl⟩
      have hbh := behindN_le n.toNat
      by_cases hpos : 0 < behindN n.toNat
      · have hV : varL1 n.toNat = [UInt8.ofNat (247 + behindN n.toNat)] ++ bigL n.toNat (behindN n.toNat) := by unfold varL1; rw [if_pos hpos]; rfl
        replace hV := Lib.hid hV
        generalize behindN n.toNat = m at *
        have hc : (247 + (m : Int)) = (((UInt8.ofNat (247 + m)).toNat : Nat) : Int) := by simp [UInt8.toNat_ofNat']; omega
        replace hc := Lib.hid hc
        go_wp2_with (at_builtin; refine wpList_append_any _ rfl (.tmp 17) (.tmp 21) _ rfl (w.heap.size) 5 i0 _ 1 1 Tryd.underlying34 hi0 hz0 hz1 hz2 rfl (by omega) _ (L).length ((L).map B8) rfl (World.ownsRow.alloc ho _) (wr.heap.size + 1) (some ⟨wr.heap.size, 0, none⟩) 1 1 [B8 (UInt8.ofNat (247 + m))] rfl ?c0 ?c1 ?c2 ?c3 ?c4 ?_; rotate_left 5; intro v2 w2 ho2 hg2 hat2; replace ho2 : OwnB w2 (w.heap.size) v2 (L ++ [UInt8.ofNat (247 + m)]) := OwnB.of_law ho2; have hG2 := (Grew.of_law hg2 hat2).of_alloc fun k hk => (OwnB.lt ho k hk).2; clear hg2 hat2)
        case c0 => exact new_byte _ _ _ _ (hc.out)
        case c1 => intro u hu; simp at hu; subst hu; rfl
        case c2 => simp only [maxLen]; omega
        case c3 => omega
        case c4 => simp; omega
        have hz2' := hG2.by_.size
        refine (put_any w.heap.size _ _ n m _ n0 n1 (by omega) ho2 (by omega) (by simp; omega)).mono ?_
        rintro e w3 ⟨v3, rfl, ho3, hG3⟩
        go_wp2_with fail
        refine ⟨⟨k + 1, by omega, by go_num, ?_, hb0.trans ((hG2.trans hG3).below hz fun k hk => (ho.lt k hk).1)⟩, by simp [intOf]; omega⟩
        rw [hsn.out, hV.out, ← List.append_assoc]
        exact ho3
      · have hV : varL1 n.toNat = [UInt8.ofNat n.toNat] := by unfold varL1; rw [if_neg hpos]
        replace hV := Lib.hid hV
        have hm : behindN n.toNat = 0 := by omega
        rw [hm]
        have hc := byte_of0 n n0
        replace hc := Lib.hid hc
        go_wp2_with (at_builtin; refine wpList_append_any _ rfl (.tmp 26) (.tmp 29) _ rfl (w.heap.size) 5 i0 _ 1 1 Tryd.underlying34 hi0 hz0 hz1 hz2 rfl (by omega) _ (L).length ((L).map B8) rfl (World.ownsRow.alloc ho _) (wr.heap.size + 1) (some ⟨wr.heap.size, 0, none⟩) 1 1 [B8 (UInt8.ofNat n.toNat)] rfl ?c0 ?c1 ?c2 ?c3 ?c4 ?_; rotate_left 5; intro v2 w2 ho2 hg2 hat2; replace ho2 : OwnB w2 (w.heap.size) v2 (L ++ [UInt8.ofNat n.toNat]) := OwnB.of_law ho2; have hG2 := (Grew.of_law hg2 hat2).of_alloc fun k hk => (OwnB.lt ho k hk).2; clear hg2 hat2)
        case c0 => exact new_byte _ _ _ _ (hc.out)
        case c1 => intro u hu; simp at hu; subst hu; rfl
        case c2 => simp only [maxLen]; omega
        case c3 => omega
        case c4 => simp; omega
        refine ⟨⟨k + 1, by omega, by go_num, ?_, hb0.trans (hG2.below hz fun k hk => (ho.lt k hk).1)⟩, by simp [intOf]; omega⟩
        rw [hsn.out, hV.out]
        exact ho2
    · obtain rfl : k = ns.length := by omega
      have hcv := ho.text
      rw [List.take_length] at hcv
      go_wp2_with fail
      go_ret
      exact ⟨rfl, hb0⟩
end Go.Proofs.YtfnlponoakhegaaDoor
namespace Go.Proofs.YtfnlponoakhegaaDoor
open Go.RowKit
set_option linter.unusedVariables false
set_option linter.unusedSimpArgs false

section
variable {P : Program} {ops : Array Oper} {Q : Exit → Act → World → Prop}

/-- The frame in which operation k's slot holds 'us k'. -/
def putAll : Nat → List Oper → (Nat → Value) → Act → Act
  | _, [], _, a => a
  | k, o :: l, us, a => putAll (k + 1) l us (a.put o.dst (us k))
def updU (us : Nat → Value) (i : Nat) (v : Value) : Nat → Value := fun k => if k = i then v else us k

def AllOps (H : Nat → Oper → Prop) : Nat → List Oper → Prop
  | _, [] => True
  | k, o :: l => H k o ∧ AllOps H (k + 1) l
theorem AllOps.at_ {H : Nat → Oper → Prop} : ∀ (l : List Oper) (k : Nat), AllOps H k l → ∀ j o, l[j]? = some o → H (k + j) o
  | [], _, _, j, o, h => by simp at h
  | x :: l, k, hh, 0, o, h => by simp at h; subst h; exact hh.1
  | x :: l, k, hh, j + 1, o, h => by
    have := AllOps.at_ l (k + 1) hh.2 j o (by simpa using h)
    rwa [show k + 1 + j = k + (j + 1) from by omega] at this

/-- Every edge leads back. -/
def backB (ops : List Oper) : Bool := (ops.zipIdx).all fun (o, i) => o.after.all fun e => !Region.binds .any e || decide (e.on < i)
theorem ready_none {ops : Array Oper} (hb : backB ops.toList = true) {listed : Array Bool} (hs : listed.size = ops.size) (h : Region.ready .any ops listed = []) : ∀ i, i < ops.size → listed.getD i false = true := by
  intro i
  induction i using Nat.strongRecOn with
  | ind i ih =>
    intro hi
    rcases Bool.eq_false_or_eq_true (listed.getD i false) with hl | hl
    · exact hl
    · exfalso
      have hm : i ∈ Region.ready .any ops listed := by
        rw [mem_ready]
        refine ⟨?_, ops[i], Array.getElem?_eq_getElem hi, ?_⟩
        · have : i < listed.size := by omega
          simp [Array.getD, this] at hl ⊢
          exact hl
        · intro e he hbind
          unfold backB at hb
          rw [List.all_eq_true] at hb
          have h1 := hb (ops[i], i) (by rw [List.mem_zipIdx_iff_getElem?]; simp [hi])
          simp only [Array.all_eq_true_iff_forall_mem] at h1
          have h2 := h1 e he
          simp [hbind] at h2
          exact ih e.on h2 (by omega)
      rw [h] at hm
      cases hm

/-- No two operations write one slot. -/
def dstNe (a b : Option Tmp) : Bool := match a, b with
  | some x, some y => x != y
  | _, _ => true
def apartB : List Oper → Bool
  | [] => true
  | o :: l => (l.all fun p => dstNe o.dst p.dst) && apartB l
theorem put_comm2 (a : Act) (d e : Option Tmp) (v u : Value) (h : dstNe d e = true) : (a.put d v).put e u = (a.put e u).put d v := by
  cases d <;> cases e <;> simp [Act.put]
  rename_i x y
  have : x ≠ y := by simpa [dstNe] using h
  rw [Array.setIfInBounds_comm _ _ this]
theorem put_put (a : Act) (d : Option Tmp) (v u : Value) : (a.put d v).put d u = a.put d u := by
  cases d <;> simp [Act.put]
theorem putAll_congr : ∀ (l : List Oper) (k : Nat) (us us' : Nat → Value) (a : Act), (∀ j, k ≤ j → us j = us' j) → putAll k l us a = putAll k l us' a
  | [], _, _, _, _, _ => rfl
  | o :: l, k, us, us', a, h => by
    unfold putAll
    rw [h k (Nat.le_refl _)]
    exact putAll_congr l (k + 1) us us' _ (fun j hj => h j (by omega))
theorem putAll_out : ∀ (l : List Oper) (k : Nat) (us : Nat → Value) (a : Act) (d : Option Tmp) (v : Value), (l.all fun p => dstNe d p.dst) = true → (putAll k l us a).put d v = putAll k l us (a.put d v)
  | [], _, _, _, _, _, _ => rfl
  | o :: l, k, us, a, d, v, h => by
    simp only [List.all_cons, Bool.and_eq_true] at h
    unfold putAll
    rw [putAll_out l (k + 1) us _ d v h.2, put_comm2 a d o.dst v (us k) h.1]
theorem putAll_put : ∀ (l : List Oper) (k : Nat) (us : Nat → Value) (a : Act) (i : Nat) (o : Oper) (v : Value), apartB l = true → l[i]? = some o → (putAll k l us a).put o.dst v = putAll k l (updU us (k + i) v) a
  | [], _, _, _, _, _, _, _, h => by simp at h
  | x :: l, k, us, a, 0, o, v, hb, h => by
    simp at h
    subst h
    simp only [apartB, Bool.and_eq_true] at hb
    unfold putAll
    rw [putAll_out l (k + 1) us _ x.dst v hb.1, put_put, putAll_congr l (k + 1) us (updU us (k + 0) v) _ (fun j hj => by unfold updU; rw [if_neg (by omega)])]
    simp [updU]
  | x :: l, k, us, a, i + 1, o, v, hb, h => by
    simp only [apartB, Bool.and_eq_true] at hb
    unfold putAll
    rw [putAll_put l (k + 1) us _ i o v hb.2 (by simpa using h)]
    have e1 : updU us (k + (i + 1)) v k = us k := by unfold updU; rw [if_neg (by omega)]
    rw [e1, show k + 1 + i = k + (i + 1) from by omega]

theorem count_set : ∀ (l : List Bool) (i : Nat), l[i]? = some false → (l.set i true).count false + 1 = l.count false
  | [], i, h => by simp at h
  | b :: l, 0, h => by simp at h; subst h; simp
  | b :: l, i + 1, h => by
    have := count_set l i (by simpa using h)
    simp only [List.set_cons_succ, List.count_cons]
    omega

theorem wp_region_typed {id : Nat} {a0 : Act} {w0 : World} {l : List Oper} (R : World → World → Prop) (τ : Nat → Value → World → Prop) (us0 : Nat → Value)
    (hm : P.follows .mixedOrders = true) (hb : backB l = true)
    (hap : apartB l = true)
    (hrefl : R w0 w0.drew) (hreflw : ∀ w, R w w) (htrans : ∀ a b c, R a b → R b c → R a c)
    (h0 : putAll 0 l us0 a0 = a0)
    (hmono : ∀ k v w w', τ k v w → R w w' → τ k v w')
    (hop : AllOps (fun i o => ∀ us w, R w0 w → (∀ k, (∃ e, e ∈ o.after ∧ Region.binds .any e = true ∧ e.on = k) → τ k (us k) w) →
      if Region.wanted o (yielded l.toArray (putAll 0 l us a0).tmps) = true then o.wp P (putAll 0 l us a0) w (fun a' w' => ∃ v, a' = (putAll 0 l us a0).put o.dst v ∧ R w w' ∧ τ i v w') Q else τ i undef w) 0 l)
    (hend : ∀ us w, R w0 w → (∀ i, i < l.length → τ i (us i) w) → Q .normal (putAll 0 l us a0) w) : (Code.region id l.toArray true).wp P Q a0 w0 := by
  have hF : ∀ us i o v, l[i]? = some o → (putAll 0 l us a0).put o.dst v = putAll 0 l (updU us i v) a0 := fun us i o v h => by
    have := putAll_put l 0 us a0 i o v hap h
    rwa [Nat.zero_add] at this
  have key : ∀ (fuel : Nat) (listed : Array Bool) (us : Nat → Value) (w : World), listed.size = l.length → listed.toList.count false ≤ fuel → R w0 w → (∀ i, listed.getD i false = true → τ i (us i) w) →
      wpAny P .any l.toArray Q fuel listed (putAll 0 l us a0) w := by
    intro fuel
    induction fuel with
    | zero =>
      intro listed us w hs hc hR ht
      have hall : ∀ i, i < l.length → listed.getD i false = true := by
        intro i hi
        have h1 : i < listed.size := by omega
        have h2 : listed.toList.count false = 0 := by omega
        rw [List.count_eq_zero] at h2
        have h3 : listed[i] ≠ false := fun e => h2 (by rw [← e]; exact Array.getElem_mem_toList h1)
        simp [Array.getD, h1]
        simpa using h3
      refine ⟨?_, hend us w hR (fun i hi => ht i (hall i hi))⟩
      rw [List.eq_nil_iff_forall_not_mem]
      intro i hi
      rw [mem_ready] at hi
      have h1 : i < listed.size := by
        rcases Nat.lt_or_ge i listed.size with h | h
        · exact h
        · have := hi.1
          simp [Array.getD, Nat.not_lt.2 h] at this
      have h2 := hall i (by omega)
      have h3 := hi.1
      simp [Array.getD, h1] at h2 h3
      rw [h2] at h3
      cases h3
    | succ fuel ih =>
      intro listed us w hs hc hR ht
      refine ⟨fun h => hend us w hR (fun i hi => ht i (ready_none (ops := l.toArray) (by simpa using hb) (by simpa using hs) h i (by simpa using hi))), fun i hi => ?_⟩
      rw [mem_ready] at hi
      obtain ⟨hun, o, ho, hedge⟩ := hi
      have hl : l[i]? = some o := by simpa using ho
      have h1 : i < listed.size := by
        rw [hs]
        exact (List.getElem?_eq_some_iff.1 hl).1
      have hun' : listed[i] = false := by simpa [Array.getD, h1] using hun
      have hop' := AllOps.at_ l 0 hop i o hl
      rw [Nat.zero_add] at hop'
      have hop2 := hop' us w hR (fun k ⟨e, he, hbd, hk⟩ => hk ▸ ht _ (hedge e he hbd))
      have next : ∀ v w', R w w' → τ i v w' → wpAny P .any l.toArray Q fuel (listed.setIfInBounds i true) ((putAll 0 l us a0).put o.dst v) w' := by
        intro v w' hR' hv
        rw [hF us i o v hl]
        refine ih _ _ _ (by simpa using hs) ?_ (htrans _ _ _ hR hR') (fun k hk => ?_)
        · have := count_set listed.toList i (by rw [Array.getElem?_toList, Array.getElem?_eq_getElem h1, hun'])
          rw [Array.toList_setIfInBounds]
          omega
        · unfold updU
          by_cases hki : k = i
          · subst hki
            rw [if_pos rfl]
            exact hv
          · rw [if_neg hki]
            refine hmono _ _ _ _ (ht k ?_) hR'
            have : i ≠ k := fun e => hki e.symm
            simp only [Array.getD_eq_getD_getElem?, Array.getElem?_setIfInBounds_ne this] at hk ⊢
            exact hk
      unfold wpOp
      simp only [ho]
      by_cases hw : Region.wanted o (yielded l.toArray (putAll 0 l us a0).tmps) = true
      · rw [if_pos hw] at hop2 ⊢
        refine .inl (Oper.wp_mono ?_ hop2)
        rintro a' w' ⟨v, rfl, hR', hv⟩
        exact next v w' hR' hv
      · rw [if_neg hw] at hop2 ⊢
        exact next undef w (hreflw w) hop2
  have hfin := key l.toArray.size (Array.replicate l.toArray.size false) us0 w0.drew (by simp) (by simp) hrefl (fun i hi => by
    exfalso
    by_cases h : i < l.toArray.size
    · simp [Array.getD, h] at hi
    · simp [Array.getD, h] at hi)
  rw [h0] at hfin
  exact wp_region_any hm hfin
/-- The same rule, an operation's goal freed of the rest of the function: any continuation, any ending. -/
def OpOk (P : Program) (a0 : Act) (w0 : World) (l : List Oper) (R : World → World → Prop) (τ : Nat → Value → World → Prop) (us0 : Nat → Value) (i : Nat) (o : Oper) : Prop :=
  ∀ (us : Nat → Value) (w : World), R w0 w → (∀ k, (∃ e, e ∈ o.after ∧ Region.binds .any e = true ∧ e.on = k) → τ k (us k) w) →
    (Region.wanted o (yielded l.toArray (putAll 0 l us a0).tmps) = true ∧
      ∀ (K : Act → World → Prop) (Q : Exit → Act → World → Prop), (∀ v w', R w w' → τ i v w' → K ((putAll 0 l us a0).put o.dst v) w') → o.wp P (putAll 0 l us a0) w K Q) ∨
    (¬ Region.wanted o (yielded l.toArray (putAll 0 l us a0).tmps) = true ∧ τ i undef w)
theorem wp_region_ops {id : Nat} {a0 : Act} {w0 : World} {l : List Oper} (R : World → World → Prop) (τ : Nat → Value → World → Prop) (us0 : Nat → Value)
    (hm : P.follows .mixedOrders = true) (hb : backB l = true)
    (hap : apartB l = true)
    (hrefl : R w0 w0.drew) (hreflw : ∀ w, R w w) (htrans : ∀ a b c, R a b → R b c → R a c)
    (h0 : putAll 0 l us0 a0 = a0)
    (hmono : ∀ k v w w', τ k v w → R w w' → τ k v w')
    (hop : AllOps (OpOk P a0 w0 l R τ us0) 0 l)
    (hend : ∀ us w, R w0 w → (∀ i, i < l.length → τ i (us i) w) → Q .normal (putAll 0 l us a0) w) : (Code.region id l.toArray true).wp P Q a0 w0 := by
  refine wp_region_typed R τ us0 hm hb hap hrefl hreflw htrans h0 hmono ?_ hend
  have conv : ∀ (ll : List Oper) (k : Nat), AllOps (OpOk P a0 w0 l R τ us0) k ll → AllOps (fun i o => ∀ us w, R w0 w → (∀ k, (∃ e, e ∈ o.after ∧ Region.binds .any e = true ∧ e.on = k) → τ k (us k) w) →
      if Region.wanted o (yielded l.toArray (putAll 0 l us a0).tmps) = true then o.wp P (putAll 0 l us a0) w (fun a' w' => ∃ v, a' = (putAll 0 l us a0).put o.dst v ∧ R w w' ∧ τ i v w') Q else τ i undef w) k ll := by
    intro ll
    induction ll with
    | nil => exact fun _ _ => trivial
    | cons o ll ih =>
      rintro k ⟨h1, h2⟩
      refine ⟨fun us w hR hp => ?_, ih _ h2⟩
      rcases h1 us w hR hp with ⟨hw, h⟩ | ⟨hw, h⟩
      · rw [if_pos hw]
        exact h _ _ (fun v w' hr ht => ⟨v, rfl, hr, ht⟩)
      · rw [if_neg hw]
        exact h
  exact conv l 0 hop

/-- The most general rule: an invariant that may know which operations have come up. -/
def setD (d : Nat → Bool) (i : Nat) : Nat → Bool := fun k => if k = i then true else d k
def OpInv (P : Program) (a0 : Act) (l : List Oper) (I : (Nat → Bool) → (Nat → Value) → World → Prop) (i : Nat) (o : Oper) : Prop :=
  ∀ (d : Nat → Bool) (us : Nat → Value) (w : World), I d us w → d i = false → (∀ k, (∃ e, e ∈ o.after ∧ Region.binds .any e = true ∧ e.on = k) → d k = true) →
    ∀ us' : Nat → Value, us' = us → (Region.wanted o (yielded l.toArray (putAll 0 l us' a0).tmps) = true ∧
      ∀ (K : Act → World → Prop) (Q : Exit → Act → World → Prop), (∀ v w', I (setD d i) (updU us i v) w' → K ((putAll 0 l us a0).put o.dst v) w') → o.wp P (putAll 0 l us a0) w K Q) ∨
    (¬ Region.wanted o (yielded l.toArray (putAll 0 l us' a0).tmps) = true ∧ I (setD d i) (updU us i undef) w)
theorem wp_region_inv {id : Nat} {a0 : Act} {w0 : World} {l : List Oper} (I : (Nat → Bool) → (Nat → Value) → World → Prop) (us0 : Nat → Value)
    (hm : P.follows .mixedOrders = true) (hb : backB l = true)
    (hap : apartB l = true)
    (h0 : putAll 0 l us0 a0 = a0)
    (hst : I (fun _ => false) us0 w0.drew)
    (hop : AllOps (OpInv P a0 l I) 0 l)
    (hend : ∀ d us w, I d us w → (∀ i, i < l.length → d i = true) → Q .normal (putAll 0 l us a0) w) : (Code.region id l.toArray true).wp P Q a0 w0 := by
  have hF : ∀ us i o v, l[i]? = some o → (putAll 0 l us a0).put o.dst v = putAll 0 l (updU us i v) a0 := fun us i o v h => by
    have := putAll_put l 0 us a0 i o v hap h
    rwa [Nat.zero_add] at this
  have key : ∀ (fuel : Nat) (listed : Array Bool) (us : Nat → Value) (w : World), listed.size = l.length → listed.toList.count false ≤ fuel → I (fun k => listed.getD k false) us w →
      wpAny P .any l.toArray Q fuel listed (putAll 0 l us a0) w := by
    intro fuel
    induction fuel with
    | zero =>
      intro listed us w hs hc hI
      have hall : ∀ i, i < l.length → listed.getD i false = true := by
        intro i hi
        have h1 : i < listed.size := by omega
        have h2 : listed.toList.count false = 0 := by omega
        rw [List.count_eq_zero] at h2
        have h3 : listed[i] ≠ false := fun e => h2 (by rw [← e]; exact Array.getElem_mem_toList h1)
        simp [Array.getD, h1]
        simpa using h3
      refine ⟨?_, hend _ us w hI (fun i hi => hall i hi)⟩
      rw [List.eq_nil_iff_forall_not_mem]
      intro i hi
      rw [mem_ready] at hi
      have h1 : i < listed.size := by
        rcases Nat.lt_or_ge i listed.size with h | h
        · exact h
        · have := hi.1
          simp [Array.getD, Nat.not_lt.2 h] at this
      have h2 := hall i (by omega)
      have h3 := hi.1
      simp [Array.getD, h1] at h2 h3
      rw [h2] at h3
      cases h3
    | succ fuel ih =>
      intro listed us w hs hc hI
      refine ⟨fun h => hend _ us w hI (fun i hi => ready_none (ops := l.toArray) (by simpa using hb) (by simpa using hs) h i (by simpa using hi)), fun i hi => ?_⟩
      rw [mem_ready] at hi
      obtain ⟨hun, o, ho, hedge⟩ := hi
      have hl : l[i]? = some o := by simpa using ho
      have h1 : i < listed.size := by
        rw [hs]
        exact (List.getElem?_eq_some_iff.1 hl).1
      have hun' : listed[i] = false := by simpa [Array.getD, h1] using hun
      have hop' := AllOps.at_ l 0 hop i o hl
      rw [Nat.zero_add] at hop'
      have hop2 := hop' _ us w hI (by simp [Array.getD, h1, hun']) (fun k ⟨e, he, hbd, hk⟩ => hk ▸ hedge e he hbd) us rfl
      have hset : (fun k => (listed.setIfInBounds i true).getD k false) = setD (fun k => listed.getD k false) i := by
        funext k
        unfold setD
        by_cases hki : k = i
        · subst hki
          simp [Array.getD, h1]
        · have : i ≠ k := fun e => hki e.symm
          rw [if_neg hki]
          simp only [Array.getD_eq_getD_getElem?, Array.getElem?_setIfInBounds_ne this]
      have next : ∀ v w', I (setD (fun k => listed.getD k false) i) (updU us i v) w' → wpAny P .any l.toArray Q fuel (listed.setIfInBounds i true) ((putAll 0 l us a0).put o.dst v) w' := by
        intro v w' hI'
        rw [hF us i o v hl]
        refine ih _ _ _ (by simpa using hs) ?_ (by rw [hset]; exact hI')
        have := count_set listed.toList i (by rw [Array.getElem?_toList, Array.getElem?_eq_getElem h1, hun'])
        rw [Array.toList_setIfInBounds]
        omega
      unfold wpOp
      simp only [ho]
      rcases hop2 with ⟨hw, h⟩ | ⟨hw, h⟩
      · rw [if_pos hw]
        exact .inl (h _ _ (fun v w' h => next v w' h))
      · rw [if_neg hw]
        exact next undef w h
  have hfin := key l.toArray.size (Array.replicate l.toArray.size false) us0 w0.drew (by simp) (by simp) (by
    have : (fun k => (Array.replicate l.toArray.size false).getD k false) = (fun _ => false) := by
      funext k
      by_cases h : k < l.toArray.size
      · simp [Array.getD, h]
      · simp [Array.getD, h]
    rw [this]
    exact hst)
  rw [h0] at hfin
  exact wp_region_any hm hfin

/-- Does operation k wait (through others too) for operation i? -/
def laterB (l : List Oper) (i : Nat) : Nat → Nat → Bool
  | 0, _ => false
  | f + 1, k => match l[k]? with
    | none => false
    | some o => o.after.toList.any fun e => Region.binds .any e && (e.on == i || laterB l i f e.on)
def Shut (l : List Oper) (d : Nat → Bool) : Prop := ∀ k o, l[k]? = some o → d k = true → ∀ e, e ∈ o.after → Region.binds .any e = true → d e.on = true
theorem laterB_not {l : List Oper} {d : Nat → Bool} {i : Nat} (hs : Shut l d) (hi : d i = false) : ∀ f k, laterB l i f k = true → d k = false
  | 0, _, h => by simp [laterB] at h
  | f + 1, k, h => by
    unfold laterB at h
    cases ho : l[k]? with
    | none => rw [ho] at h; simp at h
    | some o =>
      rw [ho] at h
      simp only [List.any_eq_true, Bool.and_eq_true, Bool.or_eq_true, beq_iff_eq] at h
      obtain ⟨e, he0, hb, h1⟩ := h
      have he : e ∈ o.after := by simpa using he0
      rcases Bool.eq_false_or_eq_true (d k) with hk | hk
      · have h2 := hs k o ho hk e he hb
        rcases h1 with h1 | h1
        · rw [h1, hi] at h2; cases h2
        · rw [laterB_not hs hi f e.on h1] at h2; cases h2
      · exact hk
def OpT (P : Program) (a0 : Act) (l : List Oper) (J : (Nat → Bool) → World → Prop) (τ : Nat → Value → World → Prop) (us0 : Nat → Value) (i : Nat) (o : Oper) : Prop :=
  ∀ (d : Nat → Bool) (us : Nat → Value) (w : World), d i = false → J d w → (∀ k, (∃ e, e ∈ o.after ∧ Region.binds .any e = true ∧ e.on = k) → d k = true ∧ τ k (us k) w) → (∀ k, laterB l i l.length k = true → d k = false ∧ us k = us0 k) → us i = us0 i →
    (Region.wanted o (yielded l.toArray (putAll 0 l us a0).tmps) = true ∧
      ∀ (K : Act → World → Prop) (Q : Exit → Act → World → Prop), (∀ v w', J (setD d i) w' → τ i v w' → (∀ k u, k ≠ i → τ k u w → τ k u w') → K ((putAll 0 l us a0).put o.dst v) w') → o.wp P (putAll 0 l us a0) w K Q) ∨
    (¬ Region.wanted o (yielded l.toArray (putAll 0 l us a0).tmps) = true ∧ J (setD d i) w ∧ τ i undef w)
theorem wp_region_task {id : Nat} {a0 : Act} {w0 : World} {l : List Oper} (J : (Nat → Bool) → World → Prop) (τ : Nat → Value → World → Prop) (us0 : Nat → Value)
    (hm : P.follows .mixedOrders = true) (hb : backB l = true)
    (hap : apartB l = true)
    (h0 : putAll 0 l us0 a0 = a0)
    (hst : J (fun _ => false) w0.drew)
    (hop : AllOps (OpT P a0 l J τ us0) 0 l)
    (hend : ∀ d us w, J d w → (∀ i, i < l.length → d i = true ∧ τ i (us i) w) → Q .normal (putAll 0 l us a0) w) : (Code.region id l.toArray true).wp P Q a0 w0 := by
  refine wp_region_inv (fun d us w => J d w ∧ Shut l d ∧ (∀ k, d k = true → τ k (us k) w) ∧ (∀ k, d k = false → us k = us0 k)) us0 hm hb hap h0 ⟨hst, (fun _ _ _ h => (by cases h)), (fun _ h => (by cases h)), fun _ _ => rfl⟩ ?_ (fun d us w hI hd => hend d us w hI.1 (fun i hi => ⟨hd i hi, hI.2.2.1 i (hd i hi)⟩))
  have shut : ∀ (i : Nat) (o : Oper) (d : Nat → Bool), l[i]? = some o → Shut l d → (∀ k, (∃ e, e ∈ o.after ∧ Region.binds .any e = true ∧ e.on = k) → d k = true) → Shut l (setD d i) := by
    intro i o d hl hs hp k o' ho' hk e he hbd
    unfold setD at hk ⊢
    by_cases hon : e.on = i
    · rw [if_pos hon]
    · rw [if_neg hon]
      by_cases hki : k = i
      · subst hki
        rw [hl] at ho'
        injection ho' with ho'
        subst ho'
        exact hp _ ⟨e, he, hbd, rfl⟩
      · rw [if_neg hki] at hk
        exact hs k o' ho' hk e he hbd
  have conv : ∀ (ll : List Oper) (k : Nat), (∀ j o, ll[j]? = some o → l[k + j]? = some o) → AllOps (OpT P a0 l J τ us0) k ll → AllOps (OpInv P a0 l (fun d us w => J d w ∧ Shut l d ∧ (∀ k, d k = true → τ k (us k) w) ∧ (∀ k, d k = false → us k = us0 k))) k ll := by
    intro ll
    induction ll with
    | nil => exact fun _ _ _ => trivial
    | cons o ll ih =>
      rintro k hat ⟨h1, h2⟩
      refine ⟨?_, ih (k + 1) (fun j o' h => by have := hat (j + 1) o' (by simpa using h); rwa [show k + (j + 1) = k + 1 + j from by omega] at this) h2⟩
      rintro d us w ⟨hJ, hs, ht, hu⟩ hd hp us' rfl
      have hlk : l[k]? = some o := by simpa using hat 0 o (by simp)
      have hs' := shut k o d hlk hs hp
      rcases h1 d us' w hd hJ (fun j hj => ⟨hp j hj, ht j (hp j hj)⟩) (fun j hj => have := laterB_not hs hd _ _ hj; ⟨this, hu j this⟩) (hu k hd) with ⟨hw, h⟩ | ⟨hw, hJ', ht'⟩
      · refine .inl ⟨hw, fun K Q hK => h K Q fun v w' hj hv hmono => hK v w' ⟨hj, hs', fun j hj => ?_, fun j hj => ?_⟩⟩
        · unfold setD at hj
          unfold updU
          by_cases hjk : j = k
          · subst hjk; rw [if_pos rfl]; exact hv
          · rw [if_neg hjk] at hj ⊢; exact hmono _ _ hjk (ht j hj)
        · unfold setD at hj
          unfold updU
          by_cases hjk : j = k
          · rw [if_pos hjk] at hj; cases hj
          · rw [if_neg hjk] at hj ⊢; exact hu j hj
      · refine .inr ⟨hw, hJ', hs', fun j hj => ?_, fun j hj => ?_⟩
        · unfold setD at hj
          unfold updU
          by_cases hjk : j = k
          · subst hjk; rw [if_pos rfl]; exact ht'
          · rw [if_neg hjk] at hj ⊢; exact ht j hj
        · unfold setD at hj
          unfold updU
          by_cases hjk : j = k
          · rw [if_pos hjk] at hj; cases hj
          · rw [if_neg hjk] at hj ⊢; exact hu j hj
  exact conv l 0 (fun j o h => by simpa using h) hop
end
/-- Slots' types that are plain values, but for some. -/
def tauL (vs : List (Option Value)) (Sp : Nat → Value → World → Prop) (k : Nat) (v : Value) (w : World) : Prop := match (vs[k]?).join with
  | some x => v = x
  | none => Sp k v w
def tauN : Nat → Value → World → Prop := fun _ _ _ => True
theorem tauL_mono {vs : List (Option Value)} {Sp : Nat → Value → World → Prop} {w w' : World} (hs : ∀ k u, Sp k u w → Sp k u w') (k : Nat) (u : Value) (h : tauL vs Sp k u w) : tauL vs Sp k u w' := by
  unfold tauL at *
  split at h <;> first | exact h | exact hs _ _ h
theorem tauL_any {vs : List (Option Value)} {w w' : World} (k : Nat) (u : Value) (h : tauL vs tauN k u w) : tauL vs tauN k u w' := tauL_mono (fun _ _ _ => trivial) k u h
end Go.Proofs.YtfnlponoakhegaaDoor
namespace Go.Proofs.YtfnlponoakhegaaDoor
open Go.RowKit
set_option linter.unusedVariables false

/-- The worlds that have grown out of w. -/
def Ext (w : World) : Type := { w' : World // Below w.heap.size w w' }
def Ext.w {w : World} (x : Ext w) : World := x.1
theorem Ext.below {w : World} (x : Ext w) : Below w.heap.size w x.w := x.2
instance (w : World) : Nonempty (Ext w) := ⟨⟨w, Below.refl _ _⟩⟩
theorem Ext.cell {w : World} (x : Ext w) (b o : Nat) (h : b < w.heap.size) : x.w.cell? ⟨b, o, none⟩ = w.cell? ⟨b, o, none⟩ := x.below.cell (p := ⟨b, o, none⟩) h
theorem Ext.frozen {w : World} (x : Ext w) (b o : Nat) (h : b < w.heap.size) : x.w.frozen? ⟨b, o, none⟩ = w.frozen? ⟨b, o, none⟩ := x.below.frozen (p := ⟨b, o, none⟩) h

theorem wp_region_ext {P : Program} {id : Nat} {Q : Exit → Act → World → Prop} {a : Act} {w : World} {l : List Oper} (hm : P.follows .mixedOrders = true) (hB : Region.lexB .any l.toArray = true)
    (h : wpQuiet P l.toArray (fun w' => ∃ x : Ext w, w' = x.w) (fun a' => ∀ w', (∃ x : Ext w, w' = x.w) → Q .normal a' w') l a) : (Code.region id l.toArray true).wp P Q a w :=
  wp_region_quiet (C := fun w' => ∃ x : Ext w, w' = x.w) hm hB ⟨⟨w.drew, (Below.refl _ _).drew⟩, rfl⟩ (by simpa using h)

/-- A callee's contract, met in a grown world. -/
theorem Calls.ext {P : Program} {f : FuncId} {args : Array Value} {w : World} {x : Ext w} {v : Value}
    (h : Calls P f args x.w fun e w' => e = .returned v ∧ Below x.w.heap.size x.w w') : Calls P f args x.w fun e w'' => e = .returned v ∧ ∃ y : Ext w, w'' = y.w :=
  h.mono fun _ w' ⟨he, hb⟩ => ⟨he, ⟨w', x.below.trans (hb.mono x.below.size)⟩, rfl⟩
/-- .. of a callee that leaves the world alone. -/
theorem Calls.ext_same {P : Program} {f : FuncId} {args : Array Value} {w : World} {x : Ext w} {v : Value}
    (h : Calls P f args x.w fun e w' => e = .returned v ∧ x.w = w') : Calls P f args x.w fun e w'' => e = .returned v ∧ ∃ y : Ext w, w'' = y.w :=
  h.mono fun _ w' ⟨he, hb⟩ => ⟨he, x, hb.symm⟩
end Go.Proofs.YtfnlponoakhegaaDoor
