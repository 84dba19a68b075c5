/- The sum turns where one byte turns. No program in sight. Package cell, plain: a cell's bytes; four bytes side by side that are others are no cell's. No program in sight. Package frame, plain: records as cells, and back; what a crash leaves of a frame is the whole one or none. No program in sight. Package batch, plain: a batch's bytes, and back. No program in sight. Package wal, plain: a log's bytes, and what a crash leaves of them. No program in sight. Package wal, plain: a disk that has logs alone, and what is done to it. No program in sight. Package wal, plain: rounds of batches, each ended by a crash: what lasts. No program in sight. An array of bytes in a block of its own, as a list. Contracts of package cell: may, Make. -/
import Derived.Test.YtdbpfemkjfogoaaGreatDoorTCrcJ
import Derived.Test.YtdbpfemkjfogoaaGreatDoorM07
import Derived.Test.YtdbpfemkjfogoaaGreatDoorM01
import Derived.Test.YtdbpfemkjfogoaaGreatDoorM05
import Derived.Laws.BytesArg
import Derived.Lib.BufferWrite
import Derived.Lib.SlBuf
namespace Go.Proofs.YtdbpfemkjfogoaaGreatDoor
set_option linter.unusedVariables false
set_option linter.unusedSimpArgs false
theorem crcT_high : ∀ i j : Fin 16, crcT i.val >>> 28 = crcT j.val >>> 28 → i = j := by decide
theorem nib_high {s : Nat} (h : s < 4294967296) : crcNib s >>> 28 = crcT (s % 16) >>> 28 := by
  unfold crcNib
  rw [Nat.shiftRight_xor_distrib]
  have : (s / 16) >>> 28 = 0 := by rw [Nat.shiftRight_eq_div_pow]; omega
  rw [this, Nat.zero_xor]
theorem xor_cancel {a b c : Nat} (h : a ^^^ c = b ^^^ c) : a = b := by
  have := congrArg (· ^^^ c) h
  simpa [Nat.xor_assoc] using this
theorem nib_inj {s s' : Nat} (h : s < 4294967296) (h' : s' < 4294967296) (e : crcNib s = crcNib s') : s = s' := by
  have e1 : crcT (s % 16) >>> 28 = crcT (s' % 16) >>> 28 := by rw [← nib_high h, ← nib_high h', e]
  have e2 := crcT_high ⟨s % 16, Nat.mod_lt _ (by decide)⟩ ⟨s' % 16, Nat.mod_lt _ (by decide)⟩ e1
  have e3 : s % 16 = s' % 16 := congrArg Fin.val e2
  unfold crcNib at e
  rw [e3] at e
  have := xor_cancel e
  omega
theorem byte_xlt {s : Nat} (h : s < 4294967296) (c : UInt8) : s ^^^ c.toNat < 4294967296 := xor_lt h (by have := c.toNat_lt; omega)
theorem byte_inj {s s' : Nat} (h : s < 4294967296) (h' : s' < 4294967296) (c : UInt8) (e : crcByte s c = crcByte s' c) : s = s' := by
  unfold crcByte at e
  have e1 := nib_inj (crcNib_lt (byte_xlt h c)) (crcNib_lt (byte_xlt h' c)) e
  exact xor_cancel (nib_inj (byte_xlt h c) (byte_xlt h' c) e1)
theorem byte_inj2 {s : Nat} (h : s < 4294967296) {c c' : UInt8} (e : crcByte s c = crcByte s c') : c = c' := by
  unfold crcByte at e
  have e1 := nib_inj (crcNib_lt (byte_xlt h c)) (crcNib_lt (byte_xlt h c')) e
  have e2 := nib_inj (byte_xlt h c) (byte_xlt h c') e1
  rw [Nat.xor_comm s, Nat.xor_comm s] at e2
  exact UInt8.toNat_inj.1 (xor_cancel e2)
theorem fold_inj : ∀ (l : List UInt8) {s s' : Nat}, s < 4294967296 → s' < 4294967296 → l.foldl crcByte s = l.foldl crcByte s' → s = s'
  | [], _, _, _, _, e => e
  | c :: l, s, s', h, h', e => byte_inj h h' c (fold_inj l (crcByte_lt h c) (crcByte_lt h' c) e)
/-- One byte is another one: the sum is another one. -/
theorem crc_turn (a b : List UInt8) {c c' : UInt8} (h : c ≠ c') : crcL (a ++ c :: b) ≠ crcL (a ++ c' :: b) := by
  intro e
  unfold crcL at e
  rw [Nat.xor_comm, Nat.xor_comm 4294967295] at e
  have e1 := xor_cancel e
  unfold crcSum at e1
  rw [List.foldl_append, List.foldl_append, List.foldl_cons, List.foldl_cons] at e1
  have ha := crcFold_lt a (s := 4294967295) (by decide)
  exact h (byte_inj2 ha (fold_inj b (crcByte_lt ha c) (crcByte_lt ha c') e1))
/-- Bytes az a number, the least first. -/
def leV : List UInt8 → Nat
  | [] => 0
  | c :: r => c.toNat ^^^ (256 * leV r)
def leL : Nat → Nat → List UInt8
  | _, 0 => []
  | n, k + 1 => UInt8.ofNat n :: leL (n / 256) k
theorem leL_len (n k : Nat) : (leL n k).length = k := by
  induction k generalizing n with
  | zero => rfl
  | succ k ih => simp [leL, ih]
theorem nib_shift (x y : Nat) : crcNib (x ^^^ 16 * y) = crcNib x ^^^ y := by
  unfold crcNib
  have h1 : (x ^^^ 16 * y) / 16 = x / 16 ^^^ y := by
    have := @Nat.shiftRight_xor_distrib 4 x (16 * y)
    rw [Nat.shiftRight_eq_div_pow, Nat.shiftRight_eq_div_pow, Nat.shiftRight_eq_div_pow] at this
    rw [show (2 : Nat) ^ 4 = 16 from rfl] at this
    rw [this, Nat.mul_div_cancel_left _ (by decide)]
  have h2 : (x ^^^ 16 * y) % 16 = x % 16 := by
    have := @Nat.xor_mod_two_pow x (16 * y) 4
    rw [show (2 : Nat) ^ 4 = 16 from rfl] at this
    rw [this, Nat.mul_mod_right, Nat.xor_zero]
  rw [h1, h2, Nat.xor_assoc, Nat.xor_assoc, Nat.xor_comm y]
def nibN : Nat → Nat → Nat
  | 0, s => s
  | k + 1, s => nibN k (crcNib (crcNib s))
theorem nibN_inj : ∀ (k : Nat) {s s' : Nat}, s < 4294967296 → s' < 4294967296 → nibN k s = nibN k s' → s = s'
  | 0, _, _, _, _, e => e
  | k + 1, s, s', h, h', e => nib_inj h h' (nib_inj (crcNib_lt h) (crcNib_lt h') (nibN_inj k (crcNib_lt (crcNib_lt h)) (crcNib_lt (crcNib_lt h')) e))
/-- Bytes that are summed, az one number. -/
theorem fold_word : ∀ (c : List UInt8) (s : Nat), c.foldl crcByte s = nibN c.length (s ^^^ leV c)
  | [], s => by simp [leV, nibN]
  | c :: r, s => by
    rw [List.foldl_cons, fold_word r, List.length_cons]
    show _ = nibN r.length (crcNib (crcNib (s ^^^ (c.toNat ^^^ 256 * leV r))))
    congr 1
    rw [show s ^^^ (c.toNat ^^^ 256 * leV r) = (s ^^^ c.toNat) ^^^ 16 * (16 * leV r) from by rw [← Nat.xor_assoc, ← Nat.mul_assoc], nib_shift, nib_shift]
    rfl
theorem leV_lt : ∀ (c : List UInt8), leV c < 256 ^ c.length
  | [] => by simp [leV]
  | c :: r => by
    have ih := leV_lt r
    have h1 : 256 * leV r < 2 ^ (8 * (r.length + 1)) := by
      rw [Nat.pow_mul, show (2 : Nat) ^ 8 = 256 from rfl, Nat.pow_succ]
      omega
    have h2 : c.toNat < 2 ^ (8 * (r.length + 1)) := by
      have h3 := c.toNat_lt
      have h4 : (2 : Nat) ^ 8 ≤ 2 ^ (8 * (r.length + 1)) := Nat.pow_le_pow_right (by decide) (by omega)
      omega
    have := Nat.xor_lt_two_pow h2 h1
    rw [Nat.pow_mul, show (2 : Nat) ^ 8 = 256 from rfl] at this
    exact this
theorem leV_inj : ∀ (c d : List UInt8), c.length = d.length → leV c = leV d → c = d
  | [], [], _, _ => rfl
  | [], d :: s, h, _ => by simp at h
  | c :: r, [], h, _ => by simp at h
  | c :: r, d :: s, h, e => by
    have hm : ∀ (x : UInt8) (t : Nat), (x.toNat ^^^ 256 * t) % 256 = x.toNat := fun x t => by
      have := @Nat.xor_mod_two_pow x.toNat (256 * t) 8
      rw [show (2 : Nat) ^ 8 = 256 from rfl] at this
      rw [this, Nat.mul_mod_right, Nat.xor_zero, Nat.mod_eq_of_lt x.toNat_lt]
    have h1 : c.toNat = d.toNat := by
      have := congrArg (· % 256) e
      simp only [leV, hm] at this
      exact this
    have h2 : 256 * leV r = 256 * leV s := by
      unfold leV at e
      rw [h1, Nat.xor_comm, Nat.xor_comm d.toNat] at e
      exact xor_cancel e
    rw [UInt8.toNat_inj.1 h1, leV_inj r s (by simpa using h) (by omega)]
theorem xor_add {a : Nat} (h : a < 256) (m : Nat) : a ^^^ 256 * m = a + 256 * m := by
  have h1 := @Nat.xor_mod_two_pow a (256 * m) 8
  rw [show (2 : Nat) ^ 8 = 256 from rfl, Nat.mul_mod_right, Nat.xor_zero, Nat.mod_eq_of_lt h] at h1
  have h2 := @Nat.shiftRight_xor_distrib 8 a (256 * m)
  rw [Nat.shiftRight_eq_div_pow, Nat.shiftRight_eq_div_pow, Nat.shiftRight_eq_div_pow, show (2 : Nat) ^ 8 = 256 from rfl, Nat.div_eq_of_lt h, Nat.zero_xor, Nat.mul_div_cancel_left _ (by decide)] at h2
  omega
theorem leV_le (n : Nat) : ∀ k, leV (leL n k) = n % 256 ^ k := by
  intro k
  induction k generalizing n with
  | zero => simp [leL, leV, Nat.mod_one]
  | succ k ih =>
    simp only [leL, leV, ih, UInt8.toNat_ofNat']
    rw [show (2 : Nat) ^ 8 = 256 from rfl, xor_add (Nat.mod_lt _ (by decide)), Nat.pow_succ, Nat.mul_comm (256 ^ k), Nat.mod_mul]
/-- Four bytes or fewer, side by side, are others: the sum is another one. -/
theorem crc_burst (a b : List UInt8) {c d : List UInt8} (hl : c.length = d.length) (h4 : c.length ≤ 4) (h : crcSum (a ++ c ++ b) = crcSum (a ++ d ++ b)) : c = d := by
  unfold crcSum at h
  rw [List.foldl_append, List.foldl_append, List.foldl_append, List.foldl_append] at h
  have ha := crcFold_lt a (s := 4294967295) (by decide)
  have e := fold_inj b (crcFold_lt c ha) (crcFold_lt d ha) h
  rw [fold_word c, fold_word d, ← hl] at e
  have hp : (256 : Nat) ^ c.length ≤ 4294967296 := Nat.le_trans (Nat.pow_le_pow_right (by decide) h4) (by decide)
  have hc := leV_lt c
  have hd := leV_lt d
  rw [← hl] at hd
  have e2 := nibN_inj _ (xor_lt ha (by omega)) (xor_lt ha (by omega)) e
  rw [Nat.xor_comm, Nat.xor_comm (a.foldl crcByte 4294967295)] at e2
  exact leV_inj c d hl (xor_cancel e2)
/-- What a text has behind it its own sum is summed to. -/
theorem crc_whole (x : List UInt8) : crcSum (x ++ leL (crcL x) 4) = nibN 4 4294967295 := by
  unfold crcSum
  rw [List.foldl_append, fold_word, leL_len, leV_le]
  have hx : x.foldl crcByte 4294967295 < 4294967296 := crcFold_lt x (by decide)
  have hm : crcL x % 256 ^ 4 = crcL x := Nat.mod_eq_of_lt (crcL_lt x)
  rw [hm]
  unfold crcL crcSum
  rw [Nat.xor_comm 4294967295, ← Nat.xor_assoc, Nat.xor_self, Nat.zero_xor]
/-- A cell. -/
structure CelE where
  first : Bool
  last : Bool
  num : Nat
  data : List UInt8
def mayC (c : CelE) : Bool := decide (c.num ≤ 65535) && (c.first == decide (c.num = 0)) && (decide (c.data.length = 24) || (decide (c.data.length < 24) && c.last && (decide (0 < c.data.length) || c.first)))
def kindC (c : CelE) : UInt8 := UInt8.ofNat (64 + (if c.first then 1 else 0) + (if c.last then 2 else 0))
def bodyC (c : CelE) : List UInt8 := [kindC c, UInt8.ofNat c.data.length, UInt8.ofNat c.num, UInt8.ofNat (c.num / 256)] ++ c.data ++ List.replicate (24 - c.data.length) 0
def makeC (c : CelE) : List UInt8 := bodyC c ++ leL (crcL (bodyC c)) 4
/-- The cell that bytes tell of, right or not. -/
def cellC (s : List UInt8) : CelE := ⟨decide ((s.getD 0 0).toNat % 2 = 1), decide ((s.getD 0 0).toNat / 2 % 2 = 1), (s.getD 2 0).toNat + 256 * (s.getD 3 0).toNat, (s.drop 4).take (s.getD 1 0).toNat⟩
def readC (s : List UInt8) : Option CelE := if s.length ≠ 32 ∨ 24 < (s.getD 1 0).toNat then none else if mayC (cellC s) = true ∧ makeC (cellC s) = s then some (cellC s) else none
theorem bodyC_len {c : CelE} (h : c.data.length ≤ 24) : (bodyC c).length = 28 := by
  unfold bodyC
  simp
  omega
theorem makeC_len {c : CelE} (h : c.data.length ≤ 24) : (makeC c).length = 32 := by
  unfold makeC
  rw [List.length_append, bodyC_len h, leL_len]
theorem mayC_data {c : CelE} (h : mayC c = true) : c.data.length ≤ 24 := by
  unfold mayC at h
  simp only [Bool.and_eq_true, Bool.or_eq_true, decide_eq_true_eq] at h
  omega
theorem kindC_toNat (c : CelE) : (kindC c).toNat = 64 + (if c.first then 1 else 0) + (if c.last then 2 else 0) := by
  unfold kindC
  cases c.first <;> cases c.last <;> rfl
/-- What was made is read. -/
theorem cellC_make {c : CelE} (h : mayC c = true) : cellC (makeC c) = c := by
  have hd := mayC_data h
  have hn : c.num ≤ 65535 := by
    unfold mayC at h
    simp only [Bool.and_eq_true, decide_eq_true_eq] at h
    exact h.1.1
  have e : makeC c = kindC c :: UInt8.ofNat c.data.length :: UInt8.ofNat c.num :: UInt8.ofNat (c.num / 256) :: (c.data ++ (List.replicate (24 - c.data.length) 0 ++ leL (crcL (bodyC c)) 4)) := by
    unfold makeC
    conv => lhs; arg 1; unfold bodyC
    simp
  have hk := kindC_toNat c
  rw [e]
  unfold cellC
  simp only [List.getD_cons_zero, List.getD_cons_succ, hk, UInt8.toNat_ofNat', List.drop_succ_cons, List.drop_zero]
  rw [show c.data.length % 2 ^ 8 = c.data.length from Nat.mod_eq_of_lt (by omega), List.take_left, show c.num % 2 ^ 8 + 256 * (c.num / 256 % 2 ^ 8) = c.num from by omega]
  obtain ⟨f, l, n, d⟩ := c
  simp only
  cases f <;> cases l <;> simp
theorem readC_make {c : CelE} (h : mayC c = true) : readC (makeC c) = some c := by
  have hd := mayC_data h
  unfold readC
  rw [cellC_make h, makeC_len hd]
  have h1 : ((makeC c).getD 1 0).toNat = c.data.length := by
    unfold makeC bodyC
    simp only [List.cons_append, List.nil_append, List.getD_cons_succ, List.getD_cons_zero, UInt8.toNat_ofNat']
    omega
  rw [h1, if_neg (by omega), if_pos ⟨h, rfl⟩]
theorem readC_some {s : List UInt8} {c : CelE} (h : readC s = some c) : mayC c = true ∧ makeC c = s ∧ s.length = 32 := by
  unfold readC at h
  split at h
  · cases h
  · split at h
    · rename_i h1 h2
      injection h with h
      subst h
      exact ⟨h2.1, h2.2, by omega⟩
    · cases h
/-- Bytes of a cell of which up to four side by side are others are no cell's. -/
theorem readC_burst {a b c d : List UInt8} (hl : c.length = d.length) (h4 : c.length ≤ 4) {x y : CelE} (h1 : readC (a ++ c ++ b) = some x) (h2 : readC (a ++ d ++ b) = some y) : c = d := by
  obtain ⟨_, e1, _⟩ := readC_some h1
  obtain ⟨_, e2, _⟩ := readC_some h2
  refine crc_burst a b hl h4 ?_
  rw [← e1, ← e2]
  unfold makeC
  rw [crc_whole, crc_whole]
/-- A record's cells, from a number on. -/
def putF (n : Nat) (r : List UInt8) : List UInt8 := if r.length ≤ 24 then makeC ⟨decide (n = 0), true, n, r⟩ else makeC ⟨decide (n = 0), false, n, r.take 24⟩ ++ putF (n + 1) (r.drop 24)
termination_by r.length
decreasing_by simp; omega
def frameL (r : List UInt8) : List UInt8 := putF 0 r
/-- A record at a text's beginning, and how many bytes its frame has. -/
def oneR (t : List UInt8) (n : Nat) (acc : List UInt8) (size : Nat) : Option (List UInt8 × Nat) :=
  if h : t.length < 32 ∨ 524288 < acc.length then none else match readC (t.take 32) with
    | none => none
    | some c => if c.num ≠ n then none else if c.last = true ∧ (acc ++ c.data).length ≤ 524288 then some (acc ++ c.data, size + 32) else oneR (t.drop 32) (n + 1) (acc ++ c.data) (size + 32)
termination_by t.length
decreasing_by simp; omega
theorem oneR_size (t : List UInt8) : ∀ (n : Nat) (acc : List UInt8) (size : Nat) (r : List UInt8) (z : Nat), oneR t n acc size = some (r, z) → size + 32 ≤ z ∧ z ≤ size + t.length := by
  generalize hk : t.length = k
  induction k using Nat.strongRecOn generalizing t with
  | ind k ih =>
    intro n acc size r z h
    unfold oneR at h
    split at h
    · cases h
    · rename_i h1
      split at h
      · cases h
      · split at h
        · cases h
        · split at h
          · injection h with h
            injection h with h2 h3
            omega
          · have := ih (t.drop 32).length (by rw [List.length_drop]; omega) _ rfl _ _ _ _ _ h
            rw [List.length_drop] at this
            omega
/-- The records that are whole, and how many bytes they take. -/
def readF (t : List UInt8) : List (List UInt8) × Nat := match h : oneR t 0 [] 0 with
  | none => ([], 0)
  | some (r, z) => (r :: (readF (t.drop z)).1, z + (readF (t.drop z)).2)
termination_by t.length
decreasing_by all_goals (have := oneR_size t 0 [] 0 r z h; simp; omega)
theorem put_may {n : Nat} {r : List UInt8} (hn : n ≤ 65535) (h : n = 0 ∨ r ≠ []) (hr : r.length ≤ 24) : mayC ⟨decide (n = 0), true, n, r⟩ = true := by
  unfold mayC
  simp only [Bool.and_eq_true, Bool.or_eq_true, decide_eq_true_eq, beq_self_eq_true, and_true]
  refine ⟨hn, ?_⟩
  by_cases h24 : r.length = 24
  · exact .inl h24
  · refine .inr ⟨by omega, ?_⟩
    rcases h with h | h
    · exact .inr h
    · exact .inl (List.length_pos_iff.2 h)
theorem put_may2 {n : Nat} {r : List UInt8} (hn : n ≤ 65535) (hr : 24 < r.length) : mayC ⟨decide (n = 0), false, n, r.take 24⟩ = true := by
  unfold mayC
  simp only [Bool.and_eq_true, Bool.or_eq_true, decide_eq_true_eq, beq_self_eq_true, and_true]
  refine ⟨hn, .inl ?_⟩
  rw [List.length_take]
  omega
theorem putF_short {n : Nat} {r : List UInt8} (h : r.length ≤ 24) : putF n r = makeC ⟨decide (n = 0), true, n, r⟩ := by
  unfold putF
  rw [if_pos h]
theorem putF_long {n : Nat} {r : List UInt8} (h : 24 < r.length) : putF n r = makeC ⟨decide (n = 0), false, n, r.take 24⟩ ++ putF (n + 1) (r.drop 24) := by
  conv => lhs; unfold putF
  rw [if_neg (by omega)]
theorem oneR_stop {t : List UInt8} {n : Nat} {acc : List UInt8} {size : Nat} (h : t.length < 32) : oneR t n acc size = none := by
  unfold oneR
  rw [dif_pos (.inl h)]
theorem oneR_none {t : List UInt8} {n : Nat} {acc : List UInt8} {size : Nat} (h : readC (t.take 32) = none) : oneR t n acc size = none := by
  unfold oneR
  split
  · rfl
  · rw [h]
theorem oneR_cell {t : List UInt8} {c : CelE} {n : Nat} {acc : List UInt8} {size : Nat} (ht : 32 ≤ t.length) (ha : acc.length ≤ 524288) (h : readC (t.take 32) = some c) (hn : c.num = n) :
    oneR t n acc size = if c.last = true ∧ (acc ++ c.data).length ≤ 524288 then some (acc ++ c.data, size + 32) else oneR (t.drop 32) (n + 1) (acc ++ c.data) (size + 32) := by
  conv => lhs; unfold oneR
  rw [dif_neg (by omega), h]
  simp only
  rw [if_neg (by rw [hn]; exact fun h => h rfl)]
theorem take_make {c : CelE} (h : mayC c = true) (rest : List UInt8) : (makeC c ++ rest).take 32 = makeC c ∧ (makeC c ++ rest).drop 32 = rest := by
  have hl := makeC_len (mayC_data h)
  constructor
  · rw [List.take_append_of_le_length (by omega), List.take_of_length_le (by omega)]
  · rw [List.drop_append_of_le_length (by omega), List.drop_of_length_le (by omega), List.nil_append]
/-- What was put is read. -/
theorem oneR_put (r : List UInt8) : ∀ (n : Nat) (acc rest : List UInt8) (size : Nat), (n = 0 ∨ r ≠ []) → n + r.length / 24 ≤ 65535 → acc.length + r.length ≤ 524288 → oneR (putF n r ++ rest) n acc size = some (acc ++ r, size + (putF n r).length) := by
  generalize hk : r.length = k
  induction k using Nat.strongRecOn generalizing r with
  | ind k ih =>
    intro n acc rest size h0 hn ha
    by_cases h24 : r.length ≤ 24
    · have hm := put_may (by omega) h0 h24
      obtain ⟨e1, e2⟩ := take_make hm rest
      rw [putF_short h24, oneR_cell (t := makeC ⟨decide (n = 0), true, n, r⟩ ++ rest) (c := ⟨decide (n = 0), true, n, r⟩) (n := n) (acc := acc) (by rw [List.length_append, makeC_len (mayC_data hm)]; omega) (by omega) (by rw [e1]; exact readC_make hm) rfl]
      simp only
      rw [if_pos ⟨trivial, by rw [List.length_append]; omega⟩, makeC_len (mayC_data hm)]
    · have hm := put_may2 (n := n) (r := r) (by omega) (by omega)
      obtain ⟨e1, e2⟩ := take_make hm (putF (n + 1) (r.drop 24) ++ rest)
      have hl24 : (r.take 24).length = 24 := by rw [List.length_take]; omega
      rw [putF_long (by omega), List.append_assoc, oneR_cell (t := makeC ⟨decide (n = 0), false, n, r.take 24⟩ ++ (putF (n + 1) (r.drop 24) ++ rest)) (c := ⟨decide (n = 0), false, n, r.take 24⟩) (n := n) (acc := acc) (by rw [List.length_append, makeC_len (mayC_data hm)]; omega) (by omega) (by rw [e1]; exact readC_make hm) rfl, e2]
      simp only
      rw [if_neg (by rintro ⟨h, _⟩; cases h)]
      have hd : (r.drop 24).length = r.length - 24 := List.length_drop
      rw [ih (r.drop 24).length (by omega) _ rfl _ _ _ _ (.inr (by intro h; rw [h] at hd; simp at hd; omega)) (by omega) (by rw [List.length_append]; omega)]
      rw [List.append_assoc, List.take_append_drop, List.length_append, makeC_len (mayC_data hm), Nat.add_assoc]
theorem readF_none {t : List UInt8} (h : oneR t 0 [] 0 = none) : readF t = ([], 0) := by
  unfold readF
  split
  · rfl
  · rename_i h2
    rw [h] at h2
    cases h2
theorem readF_some {t : List UInt8} {r : List UInt8} {z : Nat} (h : oneR t 0 [] 0 = some (r, z)) : readF t = (r :: (readF (t.drop z)).1, z + (readF (t.drop z)).2) := by
  conv => lhs; unfold readF
  split
  · rename_i h2
    rw [h] at h2
    cases h2
  · rename_i h2
    rw [h] at h2
    injection h2 with h2
    injection h2 with h3 h4
    rw [h3, h4]
theorem readF_frame {r : List UInt8} (hr : r.length ≤ 524288) (rest : List UInt8) : readF (frameL r ++ rest) = (r :: (readF rest).1, (frameL r).length + (readF rest).2) := by
  have h := oneR_put r 0 [] rest 0 (.inl rfl) (by omega) (by simpa using hr)
  rw [List.nil_append, Nat.zero_add] at h
  have e := readF_some (t := frameL r ++ rest) h
  rw [show putF 0 r = frameL r from rfl, List.drop_left] at e
  exact e
/-- Texts of one length, alike but for four bytes side by side. -/
def Burst (x y : List UInt8) : Prop := x.length = y.length ∧ ∃ p, ∀ i, (i < p ∨ p + 4 ≤ i) → x[i]? = y[i]?
theorem Burst.take {x y : List UInt8} (h : Burst x y) (m : Nat) : Burst (x.take m) (y.take m) := by
  obtain ⟨h1, p, h2⟩ := h
  refine ⟨by simp [h1], p, fun i hi => ?_⟩
  rw [List.getElem?_take, List.getElem?_take, h2 i hi]
theorem Burst.drop {x y : List UInt8} (h : Burst x y) (m : Nat) : Burst (x.drop m) (y.drop m) := by
  obtain ⟨h1, p, h2⟩ := h
  refine ⟨by simp [h1], p - m, fun i hi => ?_⟩
  by_cases hpm : p ≤ m
  · by_cases hq : p + 4 ≤ m + i
    · rw [List.getElem?_drop, List.getElem?_drop, h2 _ (.inr hq)]
    · exfalso; omega
  · rw [List.getElem?_drop, List.getElem?_drop, h2 _ (by omega)]
theorem readC_Burst {x y : List UInt8} (h : Burst x y) {a b : CelE} (h1 : readC x = some a) (h2 : readC y = some b) : x = y := by
  obtain ⟨hl, p, hp⟩ := h
  have ex : x = x.take p ++ (x.drop p).take 4 ++ x.drop (p + 4) := by rw [List.append_assoc, ← List.drop_drop, List.take_append_drop, List.take_append_drop]
  have ey : y = x.take p ++ (y.drop p).take 4 ++ x.drop (p + 4) := by
    have e1 : x.take p = y.take p := by
      apply List.ext_getElem?
      intro i
      rw [List.getElem?_take, List.getElem?_take]
      split
      · exact hp i (.inl ‹_›)
      · rfl
    have e2 : x.drop (p + 4) = y.drop (p + 4) := by
      apply List.ext_getElem?
      intro i
      rw [List.getElem?_drop, List.getElem?_drop]
      exact hp _ (.inr (by omega))
    rw [e1, e2, List.append_assoc, ← List.drop_drop, List.take_append_drop, List.take_append_drop]
  have hlen : ((x.drop p).take 4).length = ((y.drop p).take 4).length := by simp [hl]
  rw [ex] at h1
  rw [ey] at h2
  have := readC_burst hlen (by rw [List.length_take]; omega) h1 h2
  rw [ex, ey, this]
/-- What is left of a frame is the whole one, or none. -/
theorem oneR_left (r : List UInt8) : ∀ (n : Nat) (acc : List UInt8) (size k : Nat) (y : List UInt8), (n = 0 ∨ r ≠ []) → n + r.length / 24 ≤ 65535 → acc.length + r.length ≤ 524288 → Burst ((putF n r).take k) y → oneR y n acc size = none ∨ y = putF n r := by
  generalize hk0 : r.length = k0
  induction k0 using Nat.strongRecOn generalizing r with
  | ind k0 ih =>
    intro n acc size k y h0 hn ha hB
    by_cases hy : y.length < 32
    · exact .inl (oneR_stop hy)
    · have hyl := hB.1
      rw [List.length_take] at hyl
      by_cases h24 : r.length ≤ 24
      · have hm := put_may (by omega) h0 h24
        rw [putF_short h24] at hB hyl ⊢
        have hml := makeC_len (mayC_data hm)
        rw [List.take_of_length_le (by omega)] at hB
        rcases hc : readC (y.take 32) with _ | c
        · exact .inl (oneR_none hc)
        · rw [List.take_of_length_le (by omega)] at hc
          exact .inr (readC_Burst hB (readC_make hm) hc).symm
      · have hm := put_may2 (n := n) (r := r) (by omega) (by omega)
        have hml := makeC_len (mayC_data hm)
        rw [putF_long (by omega)] at hB hyl ⊢
        have hk : 32 ≤ k := by
          omega
        have hB1 := hB.take 32
        have hB2 := hB.drop 32
        rw [List.take_take, Nat.min_eq_left hk, List.take_append_of_le_length (by omega), List.take_of_length_le (by omega)] at hB1
        rw [List.drop_take, List.drop_append_of_le_length (by omega), List.drop_of_length_le (by omega), List.nil_append] at hB2
        rcases hc : readC (y.take 32) with _ | c
        · exact .inl (oneR_none hc)
        · have e := readC_Burst hB1 (readC_make hm) hc
          have hd : (r.drop 24).length = r.length - 24 := List.length_drop
          have hrc : readC (y.take 32) = some ⟨decide (n = 0), false, n, r.take 24⟩ := by rw [← e]; exact readC_make hm
          rw [oneR_cell (n := n) (acc := acc) (by omega) (by omega) hrc rfl]
          simp only
          rw [if_neg (by rintro ⟨h, _⟩; cases h)]
          rcases ih (r.drop 24).length (by omega) _ rfl (n + 1) (acc ++ r.take 24) (size + 32) (k - 32) (y.drop 32) (.inr (by intro h; rw [h] at hd; simp at hd; omega)) (by omega) (by rw [List.length_append, List.length_take]; omega) hB2 with h | h
          · exact .inl h
          · refine .inr ?_
            rw [← h, e, List.take_append_drop]
structure OpE where
  key : List UInt8
  value : List UInt8
  gone : Bool
structure BatE where
  seq : Nat
  ops : List OpE
def longO (o : OpE) : Bool := decide (64 < o.key.length) || decide (512 < o.value.length)
def badO (o : OpE) : Bool := decide (o.key = []) || (o.gone && !decide (o.value = []))
def chkB (b : BatE) : Nat := if 16 < b.ops.length ∨ b.ops.any longO = true then 3 else if b.ops = [] ∨ b.seq = 0 ∨ 9223372036854775808 < b.seq ∨ 9223372036854775808 < b.seq + max b.ops.length 1 - 1 ∨ b.ops.any badO = true then 1 else 0
def encO (o : OpE) : List UInt8 := if o.gone then 1 :: textL [o.key] else 0 :: textL [o.key, o.value]
def encB (b : BatE) : List UInt8 := varL [b.seq, b.ops.length] ++ (b.ops.map encO).flatten
def oneO (s : List UInt8) : Option (OpE × List UInt8) := match s with
  | [] => none
  | m :: t => match readText t 64 with
    | none => none
    | some (k, z) => if m = 1 then some (⟨k, [], true⟩, t.drop z) else if m = 0 then (match readText (t.drop z) 512 with
      | none => none
      | some (v, y) => some (⟨k, v, false⟩, (t.drop z).drop y)) else none
def opsO : Nat → List UInt8 → Option (List OpE × List UInt8)
  | 0, s => some ([], s)
  | n + 1, s => match oneO s with
    | none => none
    | some (o, r) => (opsO n r).map fun q => (o :: q.1, q.2)
def decB (s : List UInt8) : Option BatE := match readVar s with
  | none => none
  | some (seq, z) => match readVar (s.drop z) with
    | none => none
    | some (n, y) => if 16 < n then none else match opsO n ((s.drop z).drop y) with
      | none => none
      | some (ops, rest) => if rest = [] ∧ chkB ⟨seq, ops⟩ = 0 then some ⟨seq, ops⟩ else none
theorem text64 (a rest : List UInt8) (h : a.length ≤ 64) : readText (varL1 a.length ++ a ++ rest) 64 = some (a, (varL1 a.length).length + a.length) := readText_row a rest 64 h (by decide)
theorem text512 (a rest : List UInt8) (h : a.length ≤ 512) : readText (varL1 a.length ++ a ++ rest) 512 = some (a, (varL1 a.length).length + a.length) := readText_row a rest 512 h (by decide)
theorem oneO_enc {o : OpE} (hl : longO o = false) (hb : badO o = false) (rest : List UInt8) : oneO (encO o ++ rest) = some (o, rest) := by
  unfold longO at hl
  unfold badO at hb
  simp only [Bool.or_eq_false_iff, Bool.and_eq_false_iff, decide_eq_false_iff_not, Bool.not_eq_false', decide_eq_true_eq] at hl hb
  obtain ⟨k, v, g⟩ := o
  simp only at hl hb
  unfold encO
  cases g with
  | true =>
    have hv : v = [] := by
      rcases hb.2 with h | h
      · cases h
      · exact h
    subst hv
    simp only [if_true, textL, List.append_nil, List.cons_append]
    unfold oneO
    simp only
    rw [text64 k rest (by omega)]
    simp only [if_true]
    rw [← List.length_append, List.drop_left]
  | false =>
    simp only [Bool.false_eq_true, if_false, textL, List.append_nil, List.cons_append]
    unfold oneO
    simp only
    rw [show varL1 k.length ++ k ++ (varL1 v.length ++ v) ++ rest = varL1 k.length ++ k ++ (varL1 v.length ++ v ++ rest) from by simp only [List.append_assoc]]
    rw [text64 k _ (by omega)]
    simp only
    have hd : List.drop ((varL1 k.length).length + k.length) (varL1 k.length ++ k ++ (varL1 v.length ++ v ++ rest)) = varL1 v.length ++ v ++ rest := by rw [← List.length_append, List.drop_left]
    rw [if_neg (by decide), hd, text512 v rest (by omega)]
    simp only [if_true]
    rw [← List.length_append, List.drop_left]
theorem opsO_enc : ∀ (ops : List OpE) (rest : List UInt8), ops.any longO = false → ops.any badO = false → opsO ops.length ((ops.map encO).flatten ++ rest) = some (ops, rest)
  | [], rest, _, _ => rfl
  | o :: ops, rest, hl, hb => by
    simp only [List.any_cons, Bool.or_eq_false_iff] at hl hb
    simp only [List.length_cons, List.map_cons, List.flatten_cons, List.append_assoc, opsO]
    rw [oneO_enc hl.1 hb.1]
    simp only
    rw [opsO_enc ops rest hl.2 hb.2]
    rfl
theorem chkB_ok {b : BatE} (h : chkB b = 0) : b.ops.length ≤ 16 ∧ b.ops.any longO = false ∧ b.ops ≠ [] ∧ 1 ≤ b.seq ∧ b.seq + b.ops.length ≤ 9223372036854775809 ∧ b.ops.any badO = false := by
  unfold chkB at h
  split at h
  · cases h
  · split at h
    · cases h
    · rename_i h1 h2
      simp only [not_or] at h1 h2
      exact ⟨by omega, by simpa using h1.2, h2.1, by omega, by omega, by simpa using h2.2.2.2.2⟩
/-- What was written is read. -/
theorem decB_enc {b : BatE} (h : chkB b = 0) : decB (encB b) = some b := by
  obtain ⟨h1, h2, h3, h4, h5, h6⟩ := chkB_ok h
  unfold decB encB
  simp only [varL, List.append_nil, List.append_assoc]
  rw [readVar_var b.seq (by omega)]
  simp only
  rw [List.drop_left, readVar_var b.ops.length (by omega)]
  simp only
  rw [if_neg (by omega), List.drop_left]
  have := opsO_enc b.ops [] h2 h6
  rw [List.append_nil] at this
  rw [this]
  simp only
  rw [if_pos ⟨trivial, h⟩]
theorem decB_some {s : List UInt8} {b : BatE} (h : decB s = some b) : chkB b = 0 := by
  unfold decB at h
  split at h
  · cases h
  · split at h
    · cases h
    · split at h
      · cases h
      · split at h
        · cases h
        · split at h
          · rename_i h1
            injection h with h
            rw [← h]
            exact h1.2
          · cases h
theorem encB_len {b : BatE} (h : chkB b = 0) : (encB b).length ≤ 18 + 16 * 595 := by
  obtain ⟨h1, h2, h3, h4, h5, h6⟩ := chkB_ok h
  have hv := varL_len [b.seq, b.ops.length]
  have ho : ∀ ops : List OpE, ops.any longO = false → ((ops.map encO).flatten).length ≤ ops.length * 595 := by
    intro ops
    induction ops with
    | nil => intro _; simp
    | cons o ops ih =>
      intro hl
      simp only [List.any_cons, Bool.or_eq_false_iff] at hl
      have h7 := ih hl.2
      have h8 : (encO o).length ≤ 595 := by
        have hl1 := hl.1
        unfold longO at hl1
        simp only [Bool.or_eq_false_iff, decide_eq_false_iff_not] at hl1
        have e1 := varL1_len o.key.length
        have e2 := varL1_len o.value.length
        unfold encO
        split <;> simp [textL] <;> omega
      simp only [List.map_cons, List.flatten_cons, List.length_append, List.length_cons]
      omega
  have := ho b.ops h2
  unfold encB
  rw [List.length_append]
  simp only [List.length_cons, List.length_nil] at hv
  omega
def framesL (rs : List (List UInt8)) : List UInt8 := (rs.map frameL).flatten
theorem readF_frames : ∀ (rs : List (List UInt8)) (t : List UInt8), (∀ r ∈ rs, r.length ≤ 524288) → (readF (framesL rs ++ t)).1 = rs ++ (readF t).1
  | [], t, _ => rfl
  | r :: rs, t, h => by
    have ih := readF_frames rs t (fun x hx => h x (List.mem_cons_of_mem _ hx))
    unfold framesL at *
    rw [List.map_cons, List.flatten_cons, List.append_assoc, readF_frame (h r (List.mem_cons_self ..))]
    simp only [ih, List.cons_append]
/-- The batches of records, up to the first one that is none. -/
def batsL : List (List UInt8) → List BatE
  | [] => []
  | r :: rs => match decB r with
    | none => []
    | some b => b :: batsL rs
def batL (data : List UInt8) : List BatE := batsL (readF data).1
theorem batsL_enc : ∀ (bs : List BatE) (x : List (List UInt8)), (∀ b ∈ bs, chkB b = 0) → batsL (bs.map encB ++ x) = bs ++ batsL x
  | [], x, _ => rfl
  | b :: bs, x, h => by
    have ih := batsL_enc bs x (fun y hy => h y (List.mem_cons_of_mem _ hy))
    have e : batsL (encB b :: (bs.map encB ++ x)) = b :: batsL (bs.map encB ++ x) := by
      conv => lhs; unfold batsL
      rw [decB_enc (h b (List.mem_cons_self ..))]
    rw [List.map_cons, List.cons_append, e, ih, List.cons_append]
def logL (bs : List BatE) : List UInt8 := framesL (bs.map encB)
theorem logL_snoc (bs : List BatE) (b : BatE) : logL (bs ++ [b]) = logL bs ++ frameL (encB b) := by
  unfold logL framesL
  simp
theorem batL_log (bs : List BatE) (t : List UInt8) (h : ∀ b ∈ bs, chkB b = 0) : batL (logL bs ++ t) = bs ++ batL t := by
  unfold batL logL
  rw [readF_frames _ _ (fun r hr => by
    obtain ⟨b, hb, rfl⟩ := List.mem_map.1 hr
    have := encB_len (h b hb)
    omega), batsL_enc _ _ h]
theorem batL_none {t : List UInt8} (h : oneR t 0 [] 0 = none) : batL t = [] := by
  unfold batL
  rw [readF_none h]
  rfl
theorem wxor_len (l : List UInt8) (i : Nat) (m : UInt8) : (xorAt l i m).length = l.length := by
  unfold xorAt
  split <;> simp
theorem wxor_get (l : List UInt8) (i j : Nat) (m : UInt8) (h : j ≠ i) : (xorAt l i m)[j]? = l[j]? := by
  unfold xorAt
  split
  · rw [List.getElem?_set_ne (Ne.symm h)]
  · rfl
theorem spoil_go (l : List UInt8) (a mask : Nat) : ∀ n, ((List.range n).foldl (fun l i => xorAt l (a + i) (UInt8.ofNat (mask / 2 ^ (8 * i)))) l).length = l.length ∧ ∀ j, (j < a ∨ a + n ≤ j) → ((List.range n).foldl (fun l i => xorAt l (a + i) (UInt8.ofNat (mask / 2 ^ (8 * i)))) l)[j]? = l[j]?
  | 0 => ⟨rfl, fun _ _ => rfl⟩
  | n + 1 => by
    obtain ⟨h1, h2⟩ := spoil_go l a mask n
    rw [List.range_succ, List.foldl_append, List.foldl_cons, List.foldl_nil]
    exact ⟨by rw [wxor_len, h1], fun j hj => by rw [wxor_get _ _ _ _ (by omega), h2 j (by omega)]⟩
/-- What a crash leaves of a tail is a beginning of it, of which four bytes side by side may be others. -/
theorem tailC_burst (c : Cra) (k : Nat) (t : List UInt8) : ∃ m, Burst (t.take m) (tailC c k t) := by
  refine ⟨keepN c k t.length, ?_⟩
  unfold tailC
  simp only
  generalize t.take (keepN c k t.length) = l
  split
  · exact ⟨rfl, 0, fun _ _ => rfl⟩
  · split
    · rename_i a m _
      unfold spoilT
      simp only
      obtain ⟨h1, h2⟩ := spoil_go l (a % (l.length : Int)).toNat m (min 4 (l.length - (a % (l.length : Int)).toNat))
      exact ⟨h1.symm, (a % (l.length : Int)).toNat, fun i hi => (h2 i (by omega)).symm⟩
    · exact ⟨rfl, 0, fun _ _ => rfl⟩
/-- A log behind a crash in the middle of an Add: without it, or with all of it. -/
theorem batL_left (bs : List BatE) (b : BatE) (h : ∀ x ∈ bs, chkB x = 0) (hb : chkB b = 0) (c : Cra) (k : Nat) :
    (oneR (tailC c k (frameL (encB b))) 0 [] 0 = none ∧ batL (logL bs ++ tailC c k (frameL (encB b))) = bs) ∨ (tailC c k (frameL (encB b)) = frameL (encB b) ∧ batL (logL bs ++ tailC c k (frameL (encB b))) = bs ++ [b]) := by
  obtain ⟨m, hB⟩ := tailC_burst c k (frameL (encB b))
  have hl := encB_len hb
  rcases oneR_left (encB b) 0 [] 0 m _ (.inl rfl) (by omega) (by simp; omega) hB with e | e
  · exact .inl ⟨e, by rw [batL_log _ _ h, batL_none e, List.append_nil]⟩
  · refine .inr ⟨e, ?_⟩
    rw [e, show putF 0 (encB b) = frameL (encB b) from rfl, ← logL_snoc, ← List.append_nil (logL (bs ++ [b])), batL_log _ _ (fun x hx => by
      rcases List.mem_append.1 hx with hx | hx
      · exact h x hx
      · rw [List.mem_singleton.1 hx]; exact hb)]
    rw [batL_none (oneR_stop (by decide)), List.append_nil]
def logW : List UInt8 := [108, 111, 103]
def nameW (n : Nat) : List UInt8 := nameL logW n
theorem nameW_ne (n : Nat) : nameW n ≠ [] := by unfold nameW nameL logW; simp
theorem nameW_inj {n m : Nat} (hn : n < 18446744073709551616) (hm : m < 18446744073709551616) (h : nameW n = nameW m) : n = m := by
  have h1 := numP_name logW n hn
  have h2 := numP_name logW m hm
  unfold nameW at h
  rw [h, h2] at h1
  injection h1 with h1
  exact h1.symm
abbrev LogE := Nat × Nat × List UInt8
/-- All files are logs; they last, whole, under their names. -/
structure Cl (s : Dsk) (l : List LogE) : Prop where
  srt : l.Pairwise fun a b => a.1 < b.1
  num : ∀ q ∈ l, q.1 < 18446744073709551616
  held : ∀ q ∈ l, Held s (nameW q.1) q.2.1 q.2.2
  all : ∀ p ∈ s.names, ∃ q ∈ l, p = (nameW q.1, q.2.1)
  lst : ∀ p ∈ s.last, ∃ q ∈ l, p = (nameW q.1, q.2.1)
  chg : s.chg = []
section
variable {s : Dsk} {l : List LogE}
theorem Cl.same (h : Cl s l) {t : Dsk} (h1 : t.names = s.names) (h2 : t.last = s.last) (h3 : t.chg = s.chg) (h4 : t.files = s.files) : Cl t l :=
  ⟨h.srt, h.num, fun q hq => by
    obtain ⟨a, b, c, d, e, f⟩ := h.held q hq
    exact ⟨by rw [h1]; exact a, by rw [h2]; exact b, by rw [h1]; exact c, by rw [h2]; exact d, by rw [h3]; exact e, by rw [h4]; exact f⟩, by rw [h1]; exact h.all, by rw [h2]; exact h.lst, by rw [h3]; exact h.chg⟩
theorem Cl.burn (h : Cl s l) : Cl s.burn l := by
  obtain ⟨e1, e2, e3, e4, _, _⟩ := @Dsk.burn_same s
  exact h.same e2 e3 e4 e1
theorem Cl.start (h : Cl s l) : Cl s.start l := h.same rfl rfl rfl rfl
theorem Cl.setFuse (h : Cl s l) (n : Int) : Cl (s.setFuse n) l := h.same rfl rfl rfl rfl
theorem Cl.new (r : Int) : Cl (Dsk.new r) [] := ⟨.nil, fun q h => (nomatch h), fun q h => (nomatch h), fun p h => (nomatch h), fun p h => (nomatch h), rfl⟩
theorem Cl.crash (h : Cl s l) (c : Cra) : Cl (s.crash c) l := by
  refine ⟨h.srt, h.num, fun q hq => (h.held q hq).crash c, ?_, ?_, rfl⟩
  all_goals
    unfold Dsk.crash
    rw [h.chg]
    simp only [List.take_nil, List.foldl_nil]
    exact h.lst
theorem getM_put_same (k : List UInt8) (v : Nat) (m : NM) : getM k (putM k v m) = some v := by
  have hm : (k, v) ∈ putM k v m := (putM_mem k v (k, v) m).2 (.inl rfl)
  cases hg : getM k (putM k v m) with
  | none => exact absurd rfl (getM_none hg _ hm)
  | some u =>
    rcases (putM_mem k v (k, u) m).1 (getM_mem hg) with e | ⟨_, e⟩
    · injection e with _ e
      rw [e]
    · exact absurd rfl e
theorem Cl.none_ (h : Cl s l) {n : Nat} (hn : ∀ q ∈ l, q.1 ≠ n) (hb : n < 18446744073709551616) : getM (nameW n) s.names = none := by
  cases hg : getM (nameW n) s.names with
  | none => rfl
  | some i =>
    obtain ⟨q, hq, e⟩ := h.all _ (getM_mem hg)
    injection e with e _
    exact absurd (nameW_inj hb (h.num q hq) e).symm (hn q hq)
/-- A log is begun. -/
def Dsk.beginW (s : Dsk) (n : Nat) : Dsk × Nat := if (s.create (nameW n)).2 = 0 then (s.create (nameW n)).1.dirsync else s.create (nameW n)
/-- A batch is added to a log. -/
def Dsk.addW (s : Dsk) (n : Nat) (b : BatE) : Dsk × Nat := if chkB b = 0 then (if (s.append (nameW n) (frameL (encB b))).2 = 0 then (s.append (nameW n) (frameL (encB b))).1.sync (nameW n) else s.append (nameW n) (frameL (encB b))) else (s, chkB b)
theorem rightB_nameW {n : Nat} (hn : n < 18446744073709551616) : rightB (nameW n) = true := by
  unfold rightB
  simp only [Bool.and_eq_true, decide_eq_true_eq, Bool.not_eq_true', List.isEmpty_eq_false_iff, List.all_eq_true]
  refine ⟨⟨nameW_ne n, ?_⟩, fun c hc => ?_⟩
  · have h1 := nameL_len logW n
    have h2 := nDigits_le hn
    unfold nameW
    rw [h1]
    have : logW.length = 3 := rfl
    omega
  · unfold nameW nameL at hc
    have hc2 : c ∈ logW ∨ c = 46 ∨ c ∈ pad8 n := by simpa using hc
    rcases hc2 with hc2 | hc2 | hc2
    · unfold logW at hc2
      simp at hc2
      rcases hc2 with rfl | rfl | rfl <;> decide
    · subst hc2; decide
    · obtain ⟨h1, h2⟩ := pad8_all n c hc2
      unfold okB
      have e1 : decide (c < 97) = true := by rw [decide_eq_true_eq, UInt8.lt_iff_toNat_lt]; show c.toNat < 97; omega
      have e2 : decide (c < 48) = false := by rw [decide_eq_false_iff_not, UInt8.lt_iff_toNat_lt]; show ¬ c.toNat < 48; omega
      have e3 : decide (57 < c) = false := by rw [decide_eq_false_iff_not, UInt8.lt_iff_toNat_lt]; show ¬ 57 < c.toNat; omega
      rw [e2, e3]
      simp
/-- A directory that has logs alone. -/
def OnM (m : NM) (l : List LogE) : Prop := (∀ q ∈ l, getM (nameW q.1) m = some q.2.1 ∧ ∀ p ∈ m, p.2 = q.2.1 → p.1 = nameW q.1) ∧ ∀ p ∈ m, ∃ q ∈ l, p = (nameW q.1, q.2.1)
theorem Cl.onN (h : Cl s l) : OnM s.names l := ⟨fun q hq => ⟨(h.held q hq).names, (h.held q hq).onN⟩, h.all⟩
theorem Cl.onL (h : Cl s l) : OnM s.last l := ⟨fun q hq => ⟨(h.held q hq).last, (h.held q hq).onL⟩, h.lst⟩
theorem Cl.of (h1 : l.Pairwise fun a b => a.1 < b.1) (h2 : ∀ q ∈ l, q.1 < 18446744073709551616) (h3 : OnM s.names l) (h4 : OnM s.last l) (h5 : ∀ q ∈ l, s.files[q.2.1]? = some ⟨q.2.2, q.2.2.length⟩) (h6 : s.chg = []) : Cl s l :=
  ⟨h1, h2, fun q hq => ⟨(h3.1 q hq).1, (h4.1 q hq).1, (h3.1 q hq).2, (h4.1 q hq).2, (by rw [h6]; intro c hc; cases hc), h5 q hq⟩, h3.2, h4.2, h6⟩
theorem OnM.put {m : NM} (h : OnM m l) {n f : Nat} {d : List UInt8} (hl : ∀ q ∈ l, q.1 < n ∧ q.2.1 ≠ f) (hn : n < 18446744073709551616) (hm : ∀ p ∈ m, p.2 ≠ f) : OnM (putM (nameW n) f m) (l ++ [(n, f, d)]) := by
  refine ⟨fun q hq => ?_, fun p hp => ?_⟩
  · rcases List.mem_append.1 hq with hq | hq
    · obtain ⟨h1, h2⟩ := h.1 q hq
      obtain ⟨h3, h4⟩ := hl q hq
      have hne : nameW n ≠ nameW q.1 := fun e => by have := nameW_inj hn (by omega) e; omega
      refine ⟨by rw [getM_put hne]; exact h1, fun p hp e => ?_⟩
      rcases (putM_mem _ _ _ _).1 hp with rfl | ⟨hp, _⟩
      · exact absurd e.symm h4
      · exact h2 p hp e
    · rw [List.mem_singleton.1 hq]
      refine ⟨getM_put_same _ _ _, fun p hp e => ?_⟩
      rcases (putM_mem _ _ _ _).1 hp with rfl | ⟨hp, _⟩
      · rfl
      · exact absurd e (hm p hp)
  · rcases (putM_mem _ _ _ _).1 hp with rfl | ⟨hp, _⟩
    · exact ⟨(n, f, d), by simp, rfl⟩
    · obtain ⟨q, hq, e⟩ := h.2 p hp
      exact ⟨q, List.mem_append_left _ hq, e⟩
theorem files_lt (h : Cl s l) : ∀ q ∈ l, q.2.1 < s.files.length := fun q hq => (List.getElem?_eq_some_iff.1 (h.held q hq).file).1
theorem Cl.newFile (h : Cl s l) : Cl { s with files := s.files ++ [⟨[], 0⟩] } l :=
  Cl.of h.srt h.num h.onN h.onL (fun q hq => by
    show (s.files ++ [⟨[], 0⟩])[q.2.1]? = _
    rw [List.getElem?_append_left (files_lt h q hq)]
    exact (h.held q hq).file) h.chg
theorem srt_snoc (h : l.Pairwise fun a b => a.1 < b.1) {q : LogE} (hq : ∀ a ∈ l, a.1 < q.1) : (l ++ [q]).Pairwise fun a b => a.1 < b.1 := by
  rw [List.pairwise_append]
  exact ⟨h, List.pairwise_singleton _ _, fun a ha b hb => by rw [List.mem_singleton.1 hb]; exact hq a ha⟩
theorem num_snoc {q : LogE} (h : ∀ a ∈ l, a.1 < 18446744073709551616) (hq : q.1 < 18446744073709551616) : ∀ a ∈ l ++ [q], a.1 < 18446744073709551616 := fun a ha => by
  rcases List.mem_append.1 ha with ha | ha
  · exact h a ha
  · rw [List.mem_singleton.1 ha]; exact hq
theorem crashGo_sync (c : Cra) : ∀ (m : NM) (fs : List Fil) (k : Nat), (∀ p ∈ m, ∀ g, fs[p.2]? = some g → ¬ g.k < g.d.length) → crashGo c m fs k = fs
  | [], fs, k, h => rfl
  | p :: r, fs, k, h => by
    unfold crashGo
    cases hp : fs[p.2]? with
    | none => exact crashGo_sync c r fs k (fun x hx => h x (List.mem_cons_of_mem _ hx))
    | some g =>
      simp only []
      rw [if_neg (h p (List.mem_cons_self ..) g hp)]
      exact crashGo_sync c r fs k (fun x hx => h x (List.mem_cons_of_mem _ hx))
theorem crashGo_one (c : Cra) (f : Nat) (d F : List UInt8) : ∀ (m : NM) (fs : List Fil), (∀ p ∈ m, p.2 ≠ f → ∀ g, fs[p.2]? = some g → ¬ g.k < g.d.length) → fs[f]? = some ⟨d ++ F, d.length⟩ → F ≠ [] → (∃ p ∈ m, p.2 = f) → crashGo c m fs 0 = fs.set f (crashF c 0 ⟨d ++ F, d.length⟩)
  | [], fs, _, _, _, ⟨p, hp, _⟩ => (nomatch hp)
  | p :: r, fs, h1, h2, h3, h4 => by
    unfold crashGo
    by_cases hpf : p.2 = f
    · rw [hpf, h2]
      have hpos : 0 < F.length := List.length_pos_iff.2 h3
      simp only []
      rw [if_pos (by rw [List.length_append]; omega)]
      refine crashGo_sync c r _ _ (fun x hx g hg => ?_)
      by_cases hxf : x.2 = f
      · rw [hxf, List.getElem?_set_self (List.getElem?_eq_some_iff.1 h2).1] at hg
        injection hg with hg
        rw [← hg]
        unfold crashF
        simp
      · rw [List.getElem?_set_ne (Ne.symm hxf)] at hg
        exact h1 x (List.mem_cons_of_mem _ hx) hxf g hg
    · have hex : ∃ x ∈ r, x.2 = f := by
        obtain ⟨x, hx, e⟩ := h4
        rcases List.mem_cons.1 hx with rfl | hx
        · exact absurd e hpf
        · exact ⟨x, hx, e⟩
      have ih := crashGo_one c f d F r fs (fun x hx => h1 x (List.mem_cons_of_mem _ hx)) h2 h3 hex
      cases hp : fs[p.2]? with
      | none => exact ih
      | some g =>
        simp only []
        rw [if_neg (h1 p (List.mem_cons_self ..) hpf g hp)]
        exact ih
theorem crashF_tail (c : Cra) (d F : List UInt8) : crashF c 0 ⟨d ++ F, d.length⟩ = ⟨d ++ tailC c 0 F, (d ++ tailC c 0 F).length⟩ := by
  unfold crashF
  simp only [List.take_left, List.drop_left]
/-- A log is begun, or the power fails: then it is there or not behind the crash. -/
theorem Cl.begin (h : Cl s l) (ok : s.Ok) (hoff : s.off = false) {n : Nat} (hl : ∀ q ∈ l, q.1 < n) (hn : n < 18446744073709551616) :
    ((s.beginW n).2 = 0 ∧ (s.beginW n).1.off = false ∧ Cl (s.beginW n).1 (l ++ [(n, s.files.length, [])])) ∨ ((s.beginW n).2 = 7 ∧ ∀ c, Cl ((s.beginW n).1.crash c) l ∨ Cl ((s.beginW n).1.crash c) (l ++ [(n, s.files.length, [])])) := by
  have hnone := h.none_ (fun q hq => by have := hl q hq; omega) hn
  have hcr : s.create (nameW n) = Dsk.changed { s with files := s.files ++ [⟨[], 0⟩] } ⟨[], nameW n, some s.files.length⟩ := by
    unfold Dsk.create
    rw [if_neg (by rw [hoff]; decide), hnone]
    simp only
    rw [if_pos (rightB_nameW hn)]
  have ht := h.newFile
  have hN : ∀ p ∈ s.names, p.2 ≠ s.files.length := fun p hp => by have := (ok.names p hp).2; omega
  have hL : ∀ p ∈ s.last, p.2 ≠ s.files.length := fun p hp => by have := (ok.last p hp).2; omega
  have hlf : ∀ q ∈ l, q.1 < n ∧ q.2.1 ≠ s.files.length := fun q hq => ⟨hl q hq, by have := files_lt h q hq; omega⟩
  unfold Dsk.beginW
  rw [hcr]
  obtain ⟨t, htt⟩ : ∃ t : Dsk, t = { s with files := s.files ++ [⟨[], 0⟩] } := ⟨_, rfl⟩
  rw [← htt] at ht ⊢
  obtain ⟨e1, e2, e3, e4, _, _⟩ := @Dsk.burn_same t
  have htf : t.files = s.files ++ [⟨[], 0⟩] := by rw [htt]
  have htn : t.names = s.names := by rw [htt]
  have htl : t.last = s.last := by rw [htt]
  have htc : t.chg = [] := by rw [htt]; exact h.chg
  have hfn : (s.files ++ [⟨[], 0⟩])[s.files.length]? = some ⟨[], 0⟩ := by simp
  have hfo : ∀ q ∈ l, (s.files ++ [⟨[], 0⟩])[q.2.1]? = some ⟨q.2.2, q.2.2.length⟩ := fun q hq => by
    rw [List.getElem?_append_left (files_lt h q hq)]
    exact (h.held q hq).file
  have hfa : ∀ q ∈ l ++ [((n, s.files.length, []) : LogE)], (s.files ++ [⟨[], 0⟩])[q.2.1]? = some ⟨q.2.2, q.2.2.length⟩ := fun q hq => by
    rcases List.mem_append.1 hq with hq | hq
    · exact hfo q hq
    · rw [List.mem_singleton.1 hq]; exact hfn
  have hpN := OnM.put (d := []) h.onN hlf hn hN
  have hpL := OnM.put (d := []) h.onL hlf hn hL
  have hsr := srt_snoc (q := ((n, s.files.length, []) : LogE)) h.srt hl
  have hnu := num_snoc (q := ((n, s.files.length, []) : LogE)) h.num hn
  have hdo : ∀ m : NM, doesC m ⟨[], nameW n, some s.files.length⟩ = putM (nameW n) s.files.length m := fun m => by
    unfold doesC
    simp only [if_true]
    rw [if_neg (nameW_ne n)]
    rfl
  unfold Dsk.changed
  by_cases hbo : t.burn.off = true
  · rw [if_pos hbo]
    rw [if_neg (show ¬ ((t.burn, 7) : Dsk × Nat).2 = 0 from fun e => by cases e)]
    exact .inr ⟨rfl, fun c => .inl (ht.burn.crash c)⟩
  · rw [if_neg hbo]
    simp only [if_true, hdo]
    obtain ⟨u, hu⟩ : ∃ u : Dsk, u = { t.burn with names := putM (nameW n) s.files.length t.burn.names, chg := t.burn.chg ++ [⟨[], nameW n, some s.files.length⟩] } := ⟨_, rfl⟩
    rw [← hu]
    have uoff : u.off = false := by rw [hu]; simpa using hbo
    have un : u.names = putM (nameW n) s.files.length s.names := by rw [hu]; show putM _ _ t.burn.names = _; rw [e2, htn]
    have ul : u.last = s.last := by rw [hu]; show t.burn.last = _; rw [e3, htl]
    have uc : u.chg = [⟨[], nameW n, some s.files.length⟩] := by rw [hu]; show t.burn.chg ++ _ = _; rw [e4, htc]; rfl
    have uf : u.files = s.files ++ [⟨[], 0⟩] := by rw [hu]; show t.burn.files = _; rw [e1, htf]
    obtain ⟨b1, b2, b3, b4, _, _⟩ := @Dsk.burn_same u
    unfold Dsk.dirsync
    rw [if_neg (by rw [uoff]; decide)]
    by_cases hb2 : u.burn.off = true
    · rw [if_pos hb2]
      refine .inr ⟨rfl, fun c => ?_⟩
      have hcases : ∀ k : Nat, ((u.burn.chg.take k).foldl doesC u.burn.last = s.last) ∨ ((u.burn.chg.take k).foldl doesC u.burn.last = putM (nameW n) s.files.length s.last) := by
        intro k
        rw [b4, uc, b3, ul]
        cases k with
        | zero => exact .inl rfl
        | succ k => exact .inr (by simp only [List.take_succ_cons, List.take_nil, List.foldl_cons, List.foldl_nil, hdo])
      have hsync : ∀ m : NM, (∀ p ∈ m, p.2 = s.files.length ∨ ∃ q ∈ l, p.2 = q.2.1) → ∀ p ∈ m, ∀ g, (s.files ++ [⟨[], 0⟩])[p.2]? = some g → ¬ g.k < g.d.length := by
        intro m hm p hp g hg
        rcases hm p hp with e | ⟨q, hq, e⟩
        · rw [e, hfn] at hg
          injection hg with hg
          rw [← hg]
          simp
        · rw [e, hfo q hq] at hg
          injection hg with hg
          rw [← hg]
          simp
      rcases hcases (min (max c.names 0) u.burn.chg.length).toNat with hk | hk
      · refine .inl (Cl.of h.srt h.num ?_ ?_ (fun q hq => ?_) rfl)
        · show OnM (List.foldl doesC u.burn.last (List.take (min (max c.names 0) u.burn.chg.length).toNat u.burn.chg)) l
          rw [hk]; exact h.onL
        · show OnM (List.foldl doesC u.burn.last (List.take (min (max c.names 0) u.burn.chg.length).toNat u.burn.chg)) l
          rw [hk]; exact h.onL
        · show (crashGo c _ u.burn.files 0)[q.2.1]? = _
          rw [b1, uf]
          exact crashGo_held c _ _ _ _ _ (hfo q hq)
      · refine .inr (Cl.of hsr hnu ?_ ?_ (fun q hq => ?_) rfl)
        · show OnM (List.foldl doesC u.burn.last (List.take (min (max c.names 0) u.burn.chg.length).toNat u.burn.chg)) _
          rw [hk]; exact hpL
        · show OnM (List.foldl doesC u.burn.last (List.take (min (max c.names 0) u.burn.chg.length).toNat u.burn.chg)) _
          rw [hk]; exact hpL
        · show (crashGo c _ u.burn.files 0)[q.2.1]? = _
          rw [b1, uf]
          exact crashGo_held c _ _ _ _ _ (hfa q hq)
    · rw [if_neg hb2]
      refine .inl ⟨rfl, by simpa using hb2, Cl.of hsr hnu ?_ ?_ (fun q hq => ?_) rfl⟩
      · show OnM u.burn.names _
        rw [b2, un]; exact hpN
      · show OnM u.burn.names _
        rw [b2, un]; exact hpN
      · show u.burn.files[q.2.1]? = _
        rw [b1, uf]; exact hfa q hq
theorem putF_ne (n : Nat) (r : List UInt8) (hn : n ≤ 65535) (h : n = 0 ∨ r ≠ []) : putF n r ≠ [] := by
  intro e
  by_cases h24 : r.length ≤ 24
  · rw [putF_short h24] at e
    have := makeC_len (mayC_data (put_may hn h h24))
    rw [e] at this
    cases this
  · rw [putF_long (by omega)] at e
    have := makeC_len (mayC_data (put_may2 hn (show 24 < r.length by omega)))
    have e2 := (List.append_eq_nil_iff.1 e).1
    rw [e2] at this
    cases this
theorem OnM.data {m : NM} {n f : Nat} {d d' : List UInt8} (h : OnM m (l ++ [(n, f, d)])) : OnM m (l ++ [(n, f, d')]) := by
  refine ⟨fun q hq => ?_, fun p hp => ?_⟩
  · rcases List.mem_append.1 hq with hq | hq
    · exact h.1 q (List.mem_append_left _ hq)
    · rw [List.mem_singleton.1 hq]
      exact h.1 (n, f, d) (by simp)
  · obtain ⟨q, hq, e⟩ := h.2 p hp
    rcases List.mem_append.1 hq with hq | hq
    · exact ⟨q, List.mem_append_left _ hq, e⟩
    · rw [List.mem_singleton.1 hq] at e
      exact ⟨(n, f, d'), by simp, e⟩
theorem srt_data {n f : Nat} {d d' : List UInt8} (h : (l ++ [((n, f, d) : LogE)]).Pairwise fun a b => a.1 < b.1) : (l ++ [((n, f, d') : LogE)]).Pairwise fun a b => a.1 < b.1 := by
  rw [List.pairwise_append] at h ⊢
  refine ⟨h.1, List.pairwise_singleton _ _, fun a ha b hb => ?_⟩
  rw [List.mem_singleton.1 hb]
  exact h.2.2 a ha (n, f, d) (by simp)
theorem num_data {n f : Nat} {d d' : List UInt8} (h : ∀ a ∈ l ++ [((n, f, d) : LogE)], a.1 < 18446744073709551616) : ∀ a ∈ l ++ [((n, f, d') : LogE)], a.1 < 18446744073709551616 := fun a ha => by
  rcases List.mem_append.1 ha with ha | ha
  · exact h a (List.mem_append_left _ ha)
  · rw [List.mem_singleton.1 ha]; exact h (n, f, d) (by simp)
/-- A batch is added to the last log, or there is no room, or the power fails: then the log has what a crash leaves. -/
theorem Cl.add {n f : Nat} {d : List UInt8} (h : Cl s (l ++ [(n, f, d)])) (hoff : s.off = false) {b : BatE} (hb : chkB b = 0) :
    ((s.addW n b).2 = 0 ∧ (s.addW n b).1.off = false ∧ Cl (s.addW n b).1 (l ++ [(n, f, d ++ frameL (encB b))])) ∨ ((s.addW n b).2 = 6 ∧ (s.addW n b).1 = s) ∨ ((s.addW n b).2 = 7 ∧ ∀ c, Cl ((s.addW n b).1.crash c) (l ++ [(n, f, d)]) ∨ Cl ((s.addW n b).1.crash c) (l ++ [(n, f, d ++ tailC c 0 (frameL (encB b)))])) := by
  have hF : frameL (encB b) ≠ [] := putF_ne 0 _ (by decide) (.inl rfl)
  have hq := h.held (n, f, d) (by simp)
  simp only at hq
  have hdis : ∀ q ∈ l, q.2.1 ≠ f := fun q hql e => by
    have h1 := h.held q (List.mem_append_left _ hql)
    have h2 := hq.onN _ (getM_mem h1.names) e
    have h3 := nameW_inj (h.num q (List.mem_append_left _ hql)) (h.num (n, f, d) (by simp)) h2
    have h4 := (List.pairwise_append.1 h.srt).2.2 q hql (n, f, d) (by simp)
    simp only at h3 h4
    omega
  unfold Dsk.addW
  rw [if_pos hb]
  generalize hFF : frameL (encB b) = F at *
  have hfl := (List.getElem?_eq_some_iff.1 hq.file).1
  obtain ⟨e1, e2, e3, e4, _, _⟩ := @Dsk.burn_same s
  have hap : s.append (nameW n) F = if s.room < s.used + F.length then (s, 6) else if s.burn.off = true then (s.burn, 7) else (s.burn.setF f fun x => ⟨x.d ++ F, x.k⟩, 0) := by
    unfold Dsk.append
    rw [if_neg (by rw [hoff]; decide), hq.names]
  rw [hap]
  by_cases hr : s.room < s.used + F.length
  · rw [if_pos hr, if_neg (show ¬ ((s, 6) : Dsk × Nat).2 = 0 from fun e => by cases e)]
    exact .inr (.inl ⟨rfl, rfl⟩)
  · rw [if_neg hr]
    by_cases hbo : s.burn.off = true
    · rw [if_pos hbo, if_neg (show ¬ ((s.burn, 7) : Dsk × Nat).2 = 0 from fun e => by cases e)]
      exact .inr (.inr ⟨rfl, fun c => .inl (h.burn.crash c)⟩)
    · rw [if_neg hbo]
      simp only [if_true]
      obtain ⟨u, hu⟩ : ∃ u : Dsk, u = s.burn.setF f fun x => ⟨x.d ++ F, x.k⟩ := ⟨_, rfl⟩
      rw [← hu]
      have uoff : u.off = false := by rw [hu]; show s.burn.off = false; simpa using hbo
      have un : u.names = s.names := by rw [hu]; exact e2
      have ul : u.last = s.last := by rw [hu]; exact e3
      have uc : u.chg = [] := by rw [hu]; show s.burn.chg = []; rw [e4]; exact h.chg
      have uf : u.files = s.files.set f ⟨d ++ F, d.length⟩ := by
        rw [hu]
        unfold Dsk.setF
        simp only
        rw [e1, hq.file]
      obtain ⟨b1, b2, b3, b4, _, _⟩ := @Dsk.burn_same u
      have hsy2 : u.sync (nameW n) = if u.burn.off = true then (u.burn, 7) else (u.burn.setF f fun x => ⟨x.d, x.d.length⟩, 0) := by
        unfold Dsk.sync
        rw [if_neg (by rw [uoff]; decide), un, hq.names]
      rw [hsy2]
      by_cases hb2 : u.burn.off = true
      · rw [if_pos hb2]
        refine .inr (.inr ⟨rfl, fun c => .inr ?_⟩)
        have hne : ∃ p ∈ s.last, p.2 = f := ⟨_, getM_mem hq.last, rfl⟩
        have hsy : ∀ p ∈ s.last, p.2 ≠ f → ∀ g, (s.files.set f ⟨d ++ F, d.length⟩)[p.2]? = some g → ¬ g.k < g.d.length := by
          intro p hp hpf g hg
          obtain ⟨q, hql, e⟩ := h.lst p hp
          rw [List.getElem?_set_ne (Ne.symm hpf), e, (h.held q hql).file] at hg
          injection hg with hg
          rw [← hg]
          simp
        have hgo := crashGo_one c f d F s.last (s.files.set f ⟨d ++ F, d.length⟩) hsy (List.getElem?_set_self hfl) hF hne
        rw [crashF_tail, List.set_set] at hgo
        have hk : ∀ k, List.foldl doesC u.burn.last (List.take k u.burn.chg) = s.last := fun k => by
          rw [b4, uc, b3, ul]
          simp
        refine Cl.of (srt_data h.srt) (num_data h.num) ?_ ?_ (fun q hql => ?_) rfl
        · show OnM (List.foldl doesC u.burn.last (List.take (min (max c.names 0) u.burn.chg.length).toNat u.burn.chg)) _
          rw [hk]; exact h.onL.data
        · show OnM (List.foldl doesC u.burn.last (List.take (min (max c.names 0) u.burn.chg.length).toNat u.burn.chg)) _
          rw [hk]; exact h.onL.data
        · show (crashGo c (List.foldl doesC u.burn.last (List.take (min (max c.names 0) u.burn.chg.length).toNat u.burn.chg)) u.burn.files 0)[q.2.1]? = _
          rw [hk, b1, uf, hgo]
          rcases List.mem_append.1 hql with hql | hql
          · rw [List.getElem?_set_ne (Ne.symm (hdis q hql))]
            exact (h.held q (List.mem_append_left _ hql)).file
          · rw [List.mem_singleton.1 hql]
            exact List.getElem?_set_self hfl
      · rw [if_neg hb2]
        have hff : (u.burn.setF f fun x => ⟨x.d, x.d.length⟩).files = s.files.set f ⟨d ++ F, (d ++ F).length⟩ := by
          unfold Dsk.setF
          simp only
          rw [b1, uf, List.getElem?_set_self hfl]
          simp only
          rw [List.set_set]
        refine .inl ⟨rfl, by show u.burn.off = false; simpa using hb2, Cl.of (srt_data h.srt) (num_data h.num) ?_ ?_ (fun q hql => ?_) ?_⟩
        · show OnM u.burn.names _
          rw [b2, un]; exact h.onN.data
        · show OnM u.burn.last _
          rw [b3, ul]; exact h.onL.data
        · rw [hff]
          rcases List.mem_append.1 hql with hql | hql
          · rw [List.getElem?_set_ne (Ne.symm (hdis q hql))]
            exact (h.held q (List.mem_append_left _ hql)).file
          · rw [List.mem_singleton.1 hql]
            exact List.getElem?_set_self hfl
        · show u.burn.chg = []
          rw [b4, uc]
end
theorem sorted_eq : ∀ (a b : List Nat), a.Pairwise (· ≤ ·) → b.Pairwise (· ≤ ·) → a.Perm b → a = b
  | [], b, _, _, h => (List.nil_perm.1 h).symm
  | x :: a, [], _, _, h => absurd h.length_eq (by simp)
  | x :: a, y :: b, ha, hb, h => by
    rw [List.pairwise_cons] at ha hb
    have h1 : x ∈ y :: b := h.mem_iff.1 (List.mem_cons_self ..)
    have h2 : y ∈ x :: a := h.mem_iff.2 (List.mem_cons_self ..)
    have e : x = y := by
      rcases List.mem_cons.1 h1 with h1 | h1
      · exact h1
      · rcases List.mem_cons.1 h2 with h2 | h2
        · exact h2.symm
        · have := ha.1 y h2
          have := hb.1 x h1
          omega
    subst e
    rw [sorted_eq a b ha.2 hb.2 ((List.perm_cons x).1 h)]
/-- The logs' numbers, rising. -/
def Dsk.logsW (s : Dsk) : List Nat := (s.names.filterMap fun p => numP logW p.1).mergeSort (fun a b => decide (a ≤ b))
theorem nodup_of_map {T U : Type} (g : T → U) : ∀ {l : List T}, (l.map g).Nodup → l.Nodup
  | [], _ => .nil
  | x :: l, h => by
    rw [List.map_cons, List.nodup_cons] at h
    rw [List.nodup_cons]
    exact ⟨fun hx => h.1 (List.mem_map_of_mem hx), nodup_of_map g h.2⟩
section
variable {s : Dsk} {l : List LogE}
theorem Cl.logs (h : Cl s l) (hd : s.Dir) : s.logsW = l.map (·.1) := by
  have hnd : s.names.Nodup := nodup_of_map _ hd.cur.1
  have hln : (l.map (·.1)).Nodup := by
    have := h.srt
    unfold List.Nodup
    rw [List.pairwise_map]
    exact this.imp fun hab e => by omega
  have hlm : (l.map fun q => ((nameW q.1, q.2.1) : List UInt8 × Nat)).Nodup := by
    unfold List.Nodup
    rw [List.pairwise_map]
    refine List.Pairwise.imp_of_mem ?_ h.srt
    intro a b ha hb hab e
    injection e with e _
    have := nameW_inj (h.num a ha) (h.num b hb) e
    omega
  have hp : s.names.Perm (l.map fun q => ((nameW q.1, q.2.1) : List UInt8 × Nat)) := by
    rw [List.perm_ext_iff_of_nodup hnd hlm]
    intro p
    constructor
    · intro hp
      obtain ⟨q, hq, e⟩ := h.all p hp
      exact List.mem_map.2 ⟨q, hq, e.symm⟩
    · intro hp
      obtain ⟨q, hq, e⟩ := List.mem_map.1 hp
      rw [← e]
      exact getM_mem (h.held q hq).names
  have hf := hp.filterMap (fun p => numP logW p.1)
  have hid : ∀ k : List LogE, (∀ q ∈ k, q.1 < 18446744073709551616) → List.filterMap (fun p : List UInt8 × Nat => numP logW p.1) (k.map fun q => (nameW q.1, q.2.1)) = k.map (·.1) := by
    intro k
    induction k with
    | nil => intro _; rfl
    | cons q k ih =>
      intro hk
      rw [List.map_cons, List.filterMap_cons_some (f := fun p : List UInt8 × Nat => numP logW p.1) (a := (nameW q.1, q.2.1)) (b := q.1) (numP_name logW q.1 (hk q (List.mem_cons_self ..))), ih (fun x hx => hk x (List.mem_cons_of_mem _ hx)), List.map_cons]
  rw [hid l h.num] at hf
  unfold Dsk.logsW
  refine sorted_eq _ _ ?_ ?_ ((List.mergeSort_perm _ _).trans hf)
  · have := List.pairwise_mergeSort (le := fun a b : Nat => decide (a ≤ b)) (fun a b c h1 h2 => by simp only [decide_eq_true_eq] at *; omega) (fun a b => by simp only [Bool.or_eq_true, decide_eq_true_eq]; omega) (s.names.filterMap fun p => numP logW p.1)
    exact this.imp fun h => by simpa using h
  · rw [List.pairwise_map]
    exact h.srt.imp fun hab => by omega
/-- What all logs have. -/
theorem batL_nil : batL [] = [] := batL_none (oneR_stop (by decide))
def contW (l : List LogE) : List BatE := l.flatMap fun q => batL q.2.2
theorem contW_snoc (l : List LogE) (q : LogE) : contW (l ++ [q]) = contW l ++ batL q.2.2 := by unfold contW; simp
def Dsk.replayW (s : Dsk) (from_ : Nat) : List BatE × Nat := if s.off then ([], 7) else ((s.logsW.filter fun n => decide (from_ ≤ n)).flatMap fun n => batL (s.read (nameW n)).1, 0)
theorem Cl.read (h : Cl s l) (hoff : s.off = false) {q : LogE} (hq : q ∈ l) : s.read (nameW q.1) = (q.2.2, 0) := (h.held q hq).read hoff
theorem Cl.replay (h : Cl s l) (hd : s.Dir) (hoff : s.off = false) (k : Nat) : s.replayW k = (contW (l.filter fun q => decide (k ≤ q.1)), 0) := by
  unfold Dsk.replayW
  rw [if_neg (by rw [hoff]; decide), h.logs hd, List.filter_map]
  have : ∀ m : List LogE, (∀ q ∈ m, q ∈ l) → (m.map (·.1)).flatMap (fun n => batL (s.read (nameW n)).1) = contW m := by
    intro m
    induction m with
    | nil => intro _; rfl
    | cons q m ih =>
      intro hm
      have ih' := ih (fun x hx => hm x (List.mem_cons_of_mem _ hx))
      unfold contW at *
      rw [List.map_cons, List.flatMap_cons, List.flatMap_cons, ih', h.read hoff (hm q (List.mem_cons_self ..))]
  have h2 := this (l.filter ((fun n => decide (k ≤ n)) ∘ (·.1))) (fun q hq => (List.mem_filter.1 hq).1)
  rw [h2]
  rfl
theorem Cl.replay0 (h : Cl s l) (hd : s.Dir) (hoff : s.off = false) : s.replayW 0 = (contW l, 0) := by
  rw [h.replay hd hoff]
  congr 2
  rw [List.filter_eq_self]
  intro q _
  simp
/-- The number of the log that is begun next. -/
def nextN (ns : List Nat) : Nat := match ns.getLast? with
  | none => 1
  | some n => n + 1
def Dsk.nextW (s : Dsk) : Dsk × Nat := s.beginW (nextN s.logsW)
theorem next_above (h : Cl s l) (M : Nat) (hM : ∀ q ∈ l, q.1 ≤ M) : (∀ q ∈ l, q.1 < nextN (l.map (·.1))) ∧ nextN (l.map (·.1)) ≤ M + 1 := by
  have hs := h.srt
  unfold nextN
  rw [List.getLast?_map]
  rcases hg : l.getLast? with _ | x
  · have : l = [] := by simpa using hg
    subst this
    simp
  · have hx := List.mem_of_getLast? hg
    simp only [Option.map_some]
    refine ⟨fun q hq => ?_, by have := hM x hx; omega⟩
    obtain ⟨c, rfl⟩ : ∃ c, l = c ++ [x] := by
      have hne : l ≠ [] := by rintro rfl; cases hq
      refine ⟨l.dropLast, ?_⟩
      rw [List.getLast?_eq_some_getLast hne] at hg
      injection hg with hg
      rw [← hg, List.dropLast_concat_getLast]
    rcases List.mem_append.1 hq with hq | hq
    · have := (List.pairwise_append.1 hs).2.2 q hq x (by simp)
      omega
    · rw [List.mem_singleton.1 hq]; omega
end
/-- What a round does from a log on: the disk; what was told OK; what was under way. -/
def goW : List (BatE × Bool) → Dsk → Nat → Dsk × List BatE × List BatE
  | [], s, n => (s, [], [])
  | (b, w) :: r, s, n =>
    let x := if w then s.nextW else (s, 0)
    let n1 := if w then nextN s.logsW else n
    if x.2 = 7 then (x.1, [], []) else
      let y := x.1.addW n1 b
      if y.2 = 7 then (y.1, [], [b]) else
        let z := goW r y.1 n1
        (z.1, if y.2 = 0 then b :: z.2.1 else z.2.1, z.2.2)
theorem Dsk.Ok.beginW {s : Dsk} (ok : s.Ok) (n : Nat) : (s.beginW n).1.Ok := by
  unfold Dsk.beginW
  split
  · exact (ok.create _).dirsync
  · exact ok.create _
theorem Dsk.Ok.addW {s : Dsk} (ok : s.Ok) (n : Nat) (b : BatE) : (s.addW n b).1.Ok := by
  unfold Dsk.addW
  split
  · split
    · exact (ok.append _ _).sync _
    · exact ok.append _ _
  · exact ok
theorem Dsk.Dir.beginW {s : Dsk} (hd : s.Dir) (ok : s.Ok) (n : Nat) : (s.beginW n).1.Dir := by
  unfold Dsk.beginW
  split
  · exact (hd.create ok _).dirsync
  · exact hd.create ok _
theorem Dsk.Dir.addW {s : Dsk} (hd : s.Dir) (n : Nat) (b : BatE) : (s.addW n b).1.Dir := by
  unfold Dsk.addW
  split
  · split
    · exact (hd.append _ _).sync _
    · exact hd.append _ _
  · exact hd
theorem chkB_cases (b : BatE) : chkB b = 0 ∨ chkB b = 1 ∨ chkB b = 3 := by
  unfold chkB
  split
  · exact .inr (.inr rfl)
  · split
    · exact .inr (.inl rfl)
    · exact .inl rfl
/-- What a crash leaves behind a round: what was told OK, and perhaps what was under way. -/
def Leaves (s : Dsk) (have_ : List BatE) (under : List BatE) (M : Nat) : Prop := ∀ c, ∃ l', Cl (s.crash c) l' ∧ (∀ q ∈ l', q.1 ≤ M) ∧ (contW l' = have_ ∨ contW l' = have_ ++ under)
theorem goW_leaves : ∀ (r : List (BatE × Bool)) (s : Dsk) (l : List LogE) (n f : Nat) (bs : List BatE) (M : Nat), Cl s (l ++ [(n, f, logL bs)]) → s.Ok → s.Dir → s.off = false → (∀ b ∈ bs, chkB b = 0) → (∀ q ∈ l ++ [((n, f, logL bs) : LogE)], q.1 ≤ M) → M + r.length < 18446744073709551615 →
    Leaves (goW r s n).1 (contW l ++ bs ++ (goW r s n).2.1) (goW r s n).2.2 (M + r.length) ∧ (goW r s n).2.2.length ≤ 1 ∧ (goW r s n).1.Ok ∧ (goW r s n).1.Dir
  | [], s, l, n, f, bs, M, h, ok, hd, hoff, hbs, hM, hb => by
    refine ⟨fun c => ⟨_, h.crash c, hM, .inl ?_⟩, Nat.zero_le _, ok, hd⟩
    have := batL_log bs [] hbs
    rw [batL_nil, List.append_nil, List.append_nil] at this
    rw [contW_snoc, this]
    simp [goW]
  | (b, w) :: r, s, l, n, f, bs, M, h, ok, hd, hoff, hbs, hM, hb => by
    have hlog : ∀ bs : List BatE, (∀ b ∈ bs, chkB b = 0) → batL (logL bs) = bs := fun bs hbs => by
      have := batL_log bs [] hbs
      rw [batL_nil, List.append_nil, List.append_nil] at this
      exact this
    rw [List.length_cons] at hb
    -- the step behind the log that is written to
    have hadd : ∀ (s : Dsk) (l : List LogE) (n f : Nat) (bs : List BatE) (M' : Nat), M' ≤ M + 1 → Cl s (l ++ [(n, f, logL bs)]) → s.Ok → s.Dir → s.off = false → (∀ b ∈ bs, chkB b = 0) → (∀ q ∈ l ++ [((n, f, logL bs) : LogE)], q.1 ≤ M') →
        let y := s.addW n b
        let g := if y.2 = 7 then (y.1, ([] : List BatE), [b]) else ((goW r y.1 n).1, if y.2 = 0 then b :: (goW r y.1 n).2.1 else (goW r y.1 n).2.1, (goW r y.1 n).2.2)
        Leaves g.1 (contW l ++ bs ++ g.2.1) g.2.2 (M + (r.length + 1)) ∧ g.2.2.length ≤ 1 ∧ g.1.Ok ∧ g.1.Dir := by
      intro s l n f bs M' hM' h ok hd hoff hbs hM
      have oky := ok.addW n b
      have hdy := hd.addW n b
      have more : ∀ {t : Dsk} {x u : List BatE} {A B : Nat}, A ≤ B → Leaves t x u A → Leaves t x u B := fun hAB hL c => by
        obtain ⟨l', h1, h2, h3⟩ := hL c
        exact ⟨l', h1, fun q hq => by have := h2 q hq; omega, h3⟩
      by_cases hc : chkB b = 0
      · rcases h.add hoff hc with ⟨e, hof, hC⟩ | ⟨e, es⟩ | ⟨e, hL⟩
        · simp only [e]
          rw [if_neg (by decide)]
          simp only [if_true]
          rw [← logL_snoc] at hC
          obtain ⟨q1, q2, q3, q4⟩ := goW_leaves r _ l n f (bs ++ [b]) M' hC oky hdy hof (fun x hx => by
            rcases List.mem_append.1 hx with hx | hx
            · exact hbs x hx
            · rw [List.mem_singleton.1 hx]; exact hc) (fun q hq => by
            rcases List.mem_append.1 hq with hq | hq
            · exact hM q (List.mem_append_left _ hq)
            · rw [List.mem_singleton.1 hq]; exact hM (n, f, logL bs) (by simp)) (by omega)
          refine ⟨more (A := M' + r.length) (by omega) ?_, q2, q3, q4⟩
          have e2 : contW l ++ (bs ++ [b]) ++ (goW r (s.addW n b).1 n).2.1 = contW l ++ bs ++ b :: (goW r (s.addW n b).1 n).2.1 := by simp
          rw [e2] at q1
          exact q1
        · simp only [e]
          rw [if_neg (by decide), if_neg (by decide)]
          rw [es]
          obtain ⟨q1, q2, q3, q4⟩ := goW_leaves r s l n f bs M' h ok hd hoff hbs hM (by omega)
          exact ⟨more (A := M' + r.length) (by omega) q1, q2, q3, q4⟩
        · simp only [e]
          rw [if_pos trivial]
          refine ⟨fun c => ?_, Nat.le_refl _, oky, hdy⟩
          rcases hL c with hC | hC
          · refine ⟨_, hC, fun q hq => by have := hM q hq; omega, .inl ?_⟩
            rw [contW_snoc, hlog bs hbs]
            simp
          · refine ⟨_, hC, fun q hq => ?_, ?_⟩
            · rcases List.mem_append.1 hq with hq | hq
              · have := hM q (List.mem_append_left _ hq); omega
              · rw [List.mem_singleton.1 hq]; have := hM (n, f, logL bs) (by simp); simp only at this ⊢; omega
            · rw [contW_snoc]
              rcases batL_left bs b hbs hc c 0 with ⟨_, e1⟩ | ⟨_, e1⟩
              · simp only [e1]
                exact .inl (by simp)
              · simp only [e1]
                exact .inr (by simp)
      · have ea : s.addW n b = (s, chkB b) := by unfold Dsk.addW; rw [if_neg hc]
        have hc7 : chkB b ≠ 7 := by rcases chkB_cases b with e | e | e <;> rw [e] <;> decide
        simp only [ea]
        rw [if_neg hc7, if_neg hc]
        obtain ⟨q1, q2, q3, q4⟩ := goW_leaves r s l n f bs M' h ok hd hoff hbs hM (by omega)
        exact ⟨more (A := M' + r.length) (by omega) q1, q2, q3, q4⟩
    unfold goW
    cases w with
    | false =>
      simp only [Bool.false_eq_true, if_false]
      rw [if_neg (by decide)]
      exact hadd s l n f bs M (by omega) h ok hd hoff hbs hM
    | true =>
      simp only [if_true]
      have hlg := h.logs hd
      obtain ⟨a1, a2⟩ := next_above h M hM
      unfold Dsk.nextW
      rw [hlg]
      generalize hnn : nextN ((l ++ [((n, f, logL bs) : LogE)]).map (·.1)) = n2 at *
      have okb := ok.beginW n2
      have hdb := hd.beginW ok n2
      rcases h.begin ok hoff a1 (by omega) with ⟨e, hof, hC⟩ | ⟨e, hL⟩
      · rw [e, if_neg (by decide)]
        have hM2 : ∀ q ∈ (l ++ [((n, f, logL bs) : LogE)]) ++ [((n2, s.files.length, logL []) : LogE)], q.1 ≤ M + 1 := fun q hq => by
          rcases List.mem_append.1 hq with hq | hq
          · have := hM q hq; omega
          · rw [List.mem_singleton.1 hq]; exact a2
        obtain ⟨q1, q2, q3, q4⟩ := hadd (s.beginW n2).1 (l ++ [(n, f, logL bs)]) n2 s.files.length [] (M + 1) (Nat.le_refl _) hC okb hdb hof (fun b hb => by cases hb) hM2
        refine ⟨?_, q2, q3, q4⟩
        rw [contW_snoc, hlog bs hbs, List.append_nil] at q1
        exact q1
      · rw [e, if_pos rfl]
        refine ⟨fun c => ?_, Nat.zero_le _, okb, hdb⟩
        rcases hL c with hC | hC
        · refine ⟨_, hC, fun q hq => by have := hM q hq; simp only [List.length_cons]; omega, .inl ?_⟩
          rw [contW_snoc, hlog bs hbs]
          simp
        · refine ⟨_, hC, fun q hq => ?_, .inl ?_⟩
          · rcases List.mem_append.1 hq with hq | hq
            · have := hM q hq; simp only [List.length_cons]; omega
            · rw [List.mem_singleton.1 hq]; simp only [List.length_cons]; omega
          · rw [contW_snoc, contW_snoc, hlog bs hbs]
            simp only
            rw [batL_nil]
end Go.Proofs.YtdbpfemkjfogoaaGreatDoor
namespace Go.Proofs.YtdbpfemkjfogoaaGreatDoor
open Go.RowKit
set_option linter.unusedVariables false
set_option linter.unusedSimpArgs false
def byteV (l : List UInt8) : Array Value := (l.map fun c => Value.int .u8 (c.toNat : Nat)).toArray
theorem byteV_set (l : List UInt8) (i : Nat) (c : UInt8) : (byteV l).setIfInBounds i (.int .u8 (c.toNat : Nat)) = byteV (l.set i c) := by
  unfold byteV
  rw [List.setIfInBounds_toArray, List.map_set]
theorem byteV_get (l : List UInt8) (i : Nat) : (byteV l)[i]? = (l[i]?).map fun c => Value.int .u8 (c.toNat : Nat) := by
  unfold byteV
  rw [List.getElem?_toArray, List.getElem?_map]
def ArrB (w : World) (g t : Nat) (l : List UInt8) : Prop := Blk w g t (byteV l)
section
variable {w w' : World} {g t : Nat} {l : List UInt8}
theorem ArrB.set (h : ArrB w g t l) (i : Nat) (c : UInt8) : ArrB (w.setCell ⟨g, i, none⟩ (.int .u8 (c.toNat : Nat))) g t (l.set i c) := by
  have := Blk.set_ h i (.int .u8 (c.toNat : Nat))
  rw [byteV_set] at this
  exact this
theorem ArrB.cell (h : ArrB w g t l) {i : Nat} {c : UInt8} (hi : l[i]? = some c) : w.cell? ⟨g, i, none⟩ = some (.int .u8 (c.toNat : Nat)) := by
  have := Blk.cell h i
  rw [this, byteV_get, hi]
  rfl
end
theorem leL_snoc (k : Nat) : ∀ n, leL n (k + 1) = leL n k ++ [UInt8.ofNat (n / 256 ^ k)] := by
  induction k with
  | zero => intro n; simp [leL]
  | succ k ih =>
    intro n
    have h := ih (n / 256)
    rw [show leL n (k + 1 + 1) = UInt8.ofNat n :: leL (n / 256) (k + 1) from rfl, h, Nat.div_div_eq_div_mul, Nat.pow_succ, Nat.mul_comm (256 ^ k)]
    rfl
theorem le_set {body : List UInt8} (h : body.length = 28) (n : Nat) {k : Nat} (hk : k < 4) : (body ++ leL n k ++ List.replicate (4 - k) 0).set (28 + k) (UInt8.ofNat (n / 256 ^ k)) = body ++ leL n (k + 1) ++ List.replicate (4 - (k + 1)) 0 := by
  have hl : (body ++ leL n k).length = 28 + k := by rw [List.length_append, h, leL_len]
  rw [List.set_append_right _ _ (by omega), hl, Nat.sub_self, show 4 - k = (4 - (k + 1)) + 1 from by omega, List.replicate_succ, List.set_cons_zero, leL_snoc]
  simp
theorem ArrB.lt {w : World} {g t : Nat} {l : List UInt8} (h : ArrB w g t l) : g < w.heap.size := Blk.lt h
set_option maxRecDepth 100000 in
theorem ArrB.text {w : World} {g t : Nat} {l : List UInt8} (h : ArrB w g t l) (k cap : Nat) (hk : k ≤ l.length) : (convert 97 9 (.slice (some ⟨g, 0, none⟩) k cap)).run Tryz.prog w = .ok (.string (bs (l.take k))) w := by
  have := run_convert_bytes_arg (P := Tryz.prog) w 97 5 Tryz.underlying97 Tryz.underlying5 g 0 k cap ((l.take k).map fun c => (c.toNat : Int)) (by simp; omega) (fun i hi => by
    have hil : i < l.length := by omega
    rw [Nat.zero_add, h.cell (List.getElem?_eq_getElem hil)]
    have : (l.take k)[i]? = some l[i] := by rw [List.getElem?_take, if_pos hi, List.getElem?_eq_getElem hil]
    rw [List.getD_eq_getElem?_getD, List.getElem?_map, this]
    rfl) 9 Tryz.underlying9
  rw [this]
  congr 2
  unfold strOfNums bs
  congr 1
  simp [List.map_map, Function.comp_def]
/-- The array alone has turned. -/
def JB (w1 : World) (g t : Nat) (l : List UInt8) (w : World) : Prop := ArrB w g t l ∧ KeptBut w1 w (fun k => k = g)
theorem JB.set {w1 w : World} {g t : Nat} {l l' : List UInt8} {i : Nat} {c : UInt8} (h : JB w1 g t l w) (he : l.set i c = l') : JB w1 g t l' (w.setCell ⟨g, i, none⟩ (.int .u8 (c.toNat : Nat))) :=
  ⟨he ▸ h.1.set i c, h.2.then_set rfl⟩
def set3 (l : List UInt8) (a b c : UInt8) (d1 d2 d3 : Bool) : List UInt8 :=
  let l1 := if d1 then l.set 1 a else l
  let l2 := if d2 then l1.set 2 b else l1
  if d3 then l2.set 3 c else l2
theorem set3_1 (l : List UInt8) (a b c : UInt8) (d2 d3 : Bool) : ∀ d1, (set3 l a b c d1 d2 d3).set 1 a = set3 l a b c true d2 d3 := by
  intro d1
  cases d1 <;> cases d2 <;> cases d3 <;> simp [set3, List.set_comm]
  all_goals
    apply List.ext_getElem?
    intro i
    simp only [List.getElem?_set]
    repeat' split
    all_goals first | rfl | omega | simp_all
theorem set3_2 (l : List UInt8) (a b c : UInt8) (d1 d3 : Bool) : ∀ d2, (set3 l a b c d1 d2 d3).set 2 b = set3 l a b c d1 true d3 := by
  intro d2
  cases d1 <;> cases d2 <;> cases d3 <;> simp [set3, List.set_comm]
  all_goals
    apply List.ext_getElem?
    intro i
    simp only [List.getElem?_set]
    repeat' split
    all_goals first | rfl | omega | simp_all
theorem set3_3 (l : List UInt8) (a b c : UInt8) (d1 d2 : Bool) : ∀ d3, (set3 l a b c d1 d2 d3).set 3 c = set3 l a b c d1 d2 true := by
  intro d3
  cases d1 <;> cases d2 <;> cases d3 <;> simp [set3]
set_option maxRecDepth 100000 in
set_option maxHeartbeats 2000000 in
theorem may_any (f l : Bool) (n : Nat) (s : ByteArray) (w : World) (hn : n ≤ 2147483647) (hs : s.size ≤ 1073741824) :
    Calls Tryz.prog 179 #[.agg #[.bool f, .bool l, .int .i64 (n : Nat), .string s]] w fun e w' => e = .returned (.bool (mayC ⟨f, l, n, s.data.toList⟩)) ∧ Below w.heap.size w w' := by
  have e : mayC ⟨f, l, n, s.data.toList⟩ = (decide (n ≤ 65535) && (f == decide (n = 0)) && (decide (s.size = 24) || (decide (s.size < 24) && l && (decide (0 < s.size) || f)))) := by
    unfold mayC
    simp only [dlen]
  rw [e]
  clear e
  have hB : ∀ o, Below w.heap.size w (w.alloc o) := fun o => (Below.refl _ _).alloc (Nat.le_refl _) o
  replace hB := Lib.hid hB
  have hn0 : ¬ (n : Int) < 0 := by omega
  obtain ⟨z, hz⟩ : ∃ z, s.size = z := ⟨_, rfl⟩
  rw [hz] at hs ⊢
  rcases Nat.lt_or_ge 65535 n with h1 | h1
  · have h1' : (65535 : Int) < n := by omega
    go_enter Tryz.func179, Tryz.ntmps179
    go_wp2
    go_ret
    refine ⟨congrArg (fun b => Ending.returned (Value.bool b)) ?_, hB.out _⟩
    first | rfl | (simp; done) | (simp; omega) | (rw [Bool.eq_iff_iff]; simp; omega) | (have h2q : decide (n = 0) = false := decide_eq_false h2; rw [h2q]; simp)
  · have h1' : ¬ (65535 : Int) < n := by omega
    by_cases h2 : n = 0
    · have h2' : ((n : Int) = 0) := by omega
      cases f
      · go_enter Tryz.func179, Tryz.ntmps179
        go_wp2
        go_ret
        refine ⟨congrArg (fun b => Ending.returned (Value.bool b)) ?_, hB.out _⟩
        first | rfl | (simp; done) | (simp; omega) | (rw [Bool.eq_iff_iff]; simp; omega) | (have h2q : decide (n = 0) = false := decide_eq_false h2; rw [h2q]; simp)
      · rcases Nat.lt_trichotomy z 24 with h3 | h3 | h3
        · have h3' : (z : Int) < 24 := by omega
          have h3'' : ¬ (z : Int) = 24 := by omega
          cases l
          · go_enter Tryz.func179, Tryz.ntmps179
            go_wp2
            go_ret
            refine ⟨congrArg (fun b => Ending.returned (Value.bool b)) ?_, hB.out _⟩
            first | rfl | (simp; done) | (simp; omega) | (rw [Bool.eq_iff_iff]; simp; omega) | (have h2q : decide (n = 0) = false := decide_eq_false h2; rw [h2q]; simp)
          · by_cases h4 : 0 < z
            · have h4' : (0 : Int) < z := by omega
              go_enter Tryz.func179, Tryz.ntmps179
              go_wp2
              go_ret
              refine ⟨congrArg (fun b => Ending.returned (Value.bool b)) ?_, hB.out _⟩
              first | rfl | (simp; done) | (simp; omega) | (rw [Bool.eq_iff_iff]; simp; omega) | (have h2q : decide (n = 0) = false := decide_eq_false h2; rw [h2q]; simp)
            · have h4' : ¬ (0 : Int) < z := by omega
              go_enter Tryz.func179, Tryz.ntmps179
              go_wp2
              go_ret
              refine ⟨congrArg (fun b => Ending.returned (Value.bool b)) ?_, hB.out _⟩
              first | rfl | (simp; done) | (simp; omega) | (rw [Bool.eq_iff_iff]; simp; omega) | (have h2q : decide (n = 0) = false := decide_eq_false h2; rw [h2q]; simp)
        · have h3' : (z : Int) = 24 := by omega
          go_enter Tryz.func179, Tryz.ntmps179
          go_wp2
          go_ret
          refine ⟨congrArg (fun b => Ending.returned (Value.bool b)) ?_, hB.out _⟩
          first | rfl | (simp; done) | (simp; omega) | (rw [Bool.eq_iff_iff]; simp; omega) | (have h2q : decide (n = 0) = false := decide_eq_false h2; rw [h2q]; simp)
        · have h3' : ¬ (z : Int) < 24 := by omega
          have h3'' : ¬ (z : Int) = 24 := by omega
          go_enter Tryz.func179, Tryz.ntmps179
          go_wp2
          go_ret
          refine ⟨congrArg (fun b => Ending.returned (Value.bool b)) ?_, hB.out _⟩
          first | rfl | (simp; done) | (simp; omega) | (rw [Bool.eq_iff_iff]; simp; omega) | (have h2q : decide (n = 0) = false := decide_eq_false h2; rw [h2q]; simp)
    · have h2' : ¬ ((n : Int) = 0) := by omega
      cases f
      · rcases Nat.lt_trichotomy z 24 with h3 | h3 | h3
        · have h3' : (z : Int) < 24 := by omega
          have h3'' : ¬ (z : Int) = 24 := by omega
          cases l
          · go_enter Tryz.func179, Tryz.ntmps179
            go_wp2
            go_ret
            refine ⟨congrArg (fun b => Ending.returned (Value.bool b)) ?_, hB.out _⟩
            first | rfl | (simp; done) | (simp; omega) | (rw [Bool.eq_iff_iff]; simp; omega) | (have h2q : decide (n = 0) = false := decide_eq_false h2; rw [h2q]; simp)
          · by_cases h4 : 0 < z
            · have h4' : (0 : Int) < z := by omega
              go_enter Tryz.func179, Tryz.ntmps179
              go_wp2
              go_ret
              refine ⟨congrArg (fun b => Ending.returned (Value.bool b)) ?_, hB.out _⟩
              first | rfl | (simp; done) | (simp; omega) | (rw [Bool.eq_iff_iff]; simp; omega) | (have h2q : decide (n = 0) = false := decide_eq_false h2; rw [h2q]; simp)
            · have h4' : ¬ (0 : Int) < z := by omega
              go_enter Tryz.func179, Tryz.ntmps179
              go_wp2
              go_ret
              refine ⟨congrArg (fun b => Ending.returned (Value.bool b)) ?_, hB.out _⟩
              first | rfl | (simp; done) | (simp; omega) | (rw [Bool.eq_iff_iff]; simp; omega) | (have h2q : decide (n = 0) = false := decide_eq_false h2; rw [h2q]; simp)
        · have h3' : (z : Int) = 24 := by omega
          go_enter Tryz.func179, Tryz.ntmps179
          go_wp2
          go_ret
          refine ⟨congrArg (fun b => Ending.returned (Value.bool b)) ?_, hB.out _⟩
          first | rfl | (simp; done) | (simp; omega) | (rw [Bool.eq_iff_iff]; simp; omega) | (have h2q : decide (n = 0) = false := decide_eq_false h2; rw [h2q]; simp)
        · have h3' : ¬ (z : Int) < 24 := by omega
          have h3'' : ¬ (z : Int) = 24 := by omega
          go_enter Tryz.func179, Tryz.ntmps179
          go_wp2
          go_ret
          refine ⟨congrArg (fun b => Ending.returned (Value.bool b)) ?_, hB.out _⟩
          first | rfl | (simp; done) | (simp; omega) | (rw [Bool.eq_iff_iff]; simp; omega) | (have h2q : decide (n = 0) = false := decide_eq_false h2; rw [h2q]; simp)
      · have h2r : ((n : Int) == 0) = false := by simpa using h2'
        go_enter Tryz.func179, Tryz.ntmps179
        go_wp2
        go_ret
        refine ⟨congrArg (fun b => Ending.returned (Value.bool b)) ?_, hB.out _⟩
        first | rfl | (simp; done) | (simp; omega) | (rw [Bool.eq_iff_iff]; simp; omega) | (have h2q : decide (n = 0) = false := decide_eq_false h2; rw [h2q]; simp)
end Go.Proofs.YtdbpfemkjfogoaaGreatDoor
