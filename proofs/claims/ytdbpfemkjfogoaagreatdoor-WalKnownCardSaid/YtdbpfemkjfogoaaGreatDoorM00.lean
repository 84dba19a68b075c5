/- Words for memory, after the guide's page of lemmas to copy (extra-words): a slice that reads as a list; a block known whole; append whatever the source. A string's bytes in a new block. A region that draws its order, whatever its operations do: each operation leaves a value of its own kind, and keeps the others'. A region that draws its order, whose operations load from old blocks and whose callees leave old memory as it was: one walk, in the order of the text, serves every order. The class of worlds: those that have grown out of the one at hand. A region that draws its order: what only reads or makes memory is walked once, in the order of the text; what writes is walked behind it. -/
import Derived.Test.YtdbpfemkjfogoaaGreatDoorRows
import Derived.WalkKit
import Derived.Below
import Derived.Laws.OwnMore
import Derived.Deep.AppendLies
import Derived.Deep.Draws
import Derived.Laws.Rows
import Derived.Maps.AppendAt
import Derived.RegionTactic
import Derived.OwnWalk
import Derived.Laws.BytesArg
import Derived.Lib.ConvBytes
import Derived.Orders
import Derived.WalkLawsBesides
import Derived.WalkSpells
import Derived.Outline
import Derived.BigQuiet
import Derived.Deep.QuietTactic
namespace Go.Proofs.YtdbpfemkjfogoaaGreatDoor
open Go.RowKit
set_option linter.unusedVariables false
set_option linter.unusedSimpArgs false
theorem block_of_add (a : Addr) (n : Nat) : (a.add n).block = a.block := by unfold Addr.add; split <;> rfl
theorem add_of_add (a : Addr) (i j : Nat) : (a.add i).add j = a.add (i + j) := by
  unfold Addr.add
  by_cases hi : i = 0 <;> by_cases hj : j = 0 <;> simp [hi, hj, Nat.add_assoc]
def Reads (w : World) (B size : Nat) (A : Option Addr) (n : Nat) (xs : List Value) : Prop :=
  xs.length = n * size ∧ (0 < n → ∃ ad, A = some ad ∧ ad.block < B ∧ ∀ j u, xs[j]? = some u → w.cell? (ad.add j) = some u)
section
variable {w w' : World} {B B' size n : Nat} {A : Option Addr} {xs : List Value}
theorem Reads.none_ : Reads w B size A 0 [] := ⟨by simp, fun h => absurd h (by omega)⟩
theorem Reads.at_ {k : Nat} (h : Reads w B 1 A n xs) (hk : k < n) : ∃ ad u, A = some ad ∧ ad.block < B ∧ xs[k]? = some u ∧ w.cell? (ad.add k) = some u := by
  obtain ⟨ad, e, hb, hc⟩ := h.2 (by omega)
  have hl : k < xs.length := by have := h.1; omega
  exact ⟨ad, xs[k], e, hb, List.getElem?_eq_getElem hl, hc k _ (List.getElem?_eq_getElem hl)⟩
theorem Reads.keep (h : Reads w B size A n xs) (hk : ∀ p : Addr, p.block < B → w'.cell? p = w.cell? p) : Reads w' B size A n xs :=
  ⟨h.1, fun hn => by
    obtain ⟨ad, e, hb, hc⟩ := h.2 hn
    exact ⟨ad, e, hb, fun j u hu => (hk _ (by rw [block_of_add]; exact hb)).trans (hc j u hu)⟩⟩
theorem Reads.more (h : Reads w B size A n xs) (hB : B ≤ B') : Reads w B' size A n xs :=
  ⟨h.1, fun hn => by
    obtain ⟨ad, e, hb, hc⟩ := h.2 hn
    exact ⟨ad, e, by omega, hc⟩⟩
theorem Reads.below (h : Reads w B size A n xs) (hb : Below B w w') : Reads w' B size A n xs := h.keep fun _ hp => hb.cell hp
theorem Reads.drew (h : Reads w B size A n xs) : Reads w.drew B size A n xs := h
theorem Reads.drewN (h : Reads w B size A n xs) (k : Nat) : Reads (w.drewN k) B size A n xs := h
theorem Reads.alloc (h : Reads w B size A n xs) (hB : B ≤ w.heap.size) (o : Obj) : Reads (w.alloc o) B size A n xs := h.keep fun p hp => World.cell?_alloc_lt w o p (by omega)
theorem Reads.setCell (h : Reads w B size A n xs) {p : Addr} (hB : B ≤ p.block) (u : Value) : Reads (w.setCell p u) B size A n xs :=
  h.keep fun q hq => World.cell?_setCell_other w p q u (fun e => by subst e; omega)
theorem Reads.grown (h : Reads w B size A n xs) {row : Option Nat} (hg : w.grownBy w' row) (hB : B ≤ w.heap.size) (hr : ∀ g, row = some g → B ≤ g) : Reads w' B size A n xs :=
  h.keep fun p hp => World.cell?_of_block (hg.block p.block (by omega) (fun e => by have := hr _ e.symm; omega))
theorem Reads.cut (h : Reads w B size A n xs) {k cap : Nat} (hk : k ≤ n) (hc : n ≤ cap) :
    Reads w B size (if cap = k then A else A.map (·.add (k * size))) (n - k) (xs.drop (k * size)) := by
  refine ⟨by rw [List.length_drop, h.1, Nat.sub_mul], fun hn => ?_⟩
  obtain ⟨ad, rfl, hb, hcell⟩ := h.2 (by omega)
  rw [if_neg (by omega)]
  refine ⟨ad.add (k * size), rfl, by rw [block_of_add]; exact hb, fun j u hu => ?_⟩
  rw [add_of_add]
  exact hcell _ u (by rw [← hu, List.getElem?_drop])
theorem Reads.of_own {base : Nat} {e : TypeId} {c : Nat} (h : w.ownsRow base e size (.slice A n c) n xs) : Reads w w.heap.size size A n xs := by
  refine ⟨h.1, fun hn => ?_⟩
  obtain ⟨g, cap, hv, _, hlt⟩ := h.form hn
  have hA : A = some ⟨g, 0, none⟩ := by injection hv
  subst hA
  exact ⟨_, rfl, hlt, h.cells (g := g) rfl⟩
end
def Blk (w : World) (g : Nat) (t : TypeId) (cs : Array Value) : Prop := w.heap[g]? = some (.cells cs t (0, 0))
section
variable {w w' : World} {g : Nat} {t : TypeId} {cs : Array Value}
theorem Blk.lt (h : Blk w g t cs) : g < w.heap.size := by
  rcases Nat.lt_or_ge g w.heap.size with hlt | hge
  · exact hlt
  · unfold Blk at h; rw [Array.getElem?_eq_none hge] at h; cases h
theorem Blk.cell (h : Blk w g t cs) (i : Nat) : w.cell? ⟨g, i, none⟩ = cs[i]? := cell_of_row w g i cs t (0, 0) h
theorem Blk.frozen (h : Blk w g t cs) (i : Nat) : w.frozen? ⟨g, i, none⟩ = false := by
  unfold Blk at h
  simp [World.frozen?, h]
theorem Blk.new (w : World) (t : TypeId) (cs : Array Value) : Blk (w.alloc (.cells cs t)) w.heap.size t cs := heap_alloc_new w _
theorem Blk.drew (h : Blk w g t cs) : Blk w.drew g t cs := h
theorem Blk.drewN (h : Blk w g t cs) (n : Nat) : Blk (w.drewN n) g t cs := h
theorem Blk.alloc (h : Blk w g t cs) (o : Obj) : Blk (w.alloc o) g t cs := (Below.heap_alloc w o g h.lt).trans h
theorem Blk.set_ (h : Blk w g t cs) (i : Nat) (u : Value) : Blk (w.setCell ⟨g, i, none⟩ u) g t (cs.setIfInBounds i u) := by
  unfold Blk at h ⊢
  simp [World.setCell, Array.getElem?_modify, h]
theorem Blk.far (h : Blk w g t cs) {p : Addr} (hp : g ≠ p.block) (u : Value) : Blk (w.setCell p u) g t cs := (Below.heap_setCell w p u g hp).trans h
theorem Blk.below {B : Nat} (h : Blk w g t cs) (hb : Below B w w') (hg : g < B) : Blk w' g t cs := (hb.block g hg).trans h
theorem Blk.grown {row : Option Nat} (h : Blk w g t cs) (hb : w.grownBy w' row) (hg : some g ≠ row) : Blk w' g t cs := (hb.block g h.lt hg).trans h
theorem Blk.ne_ {g' : Nat} {t' : TypeId} {cs' : Array Value} (h : Blk w g t cs) (h' : Blk w g' t' cs') (hne : t ≠ t') : g ≠ g' := by
  rintro rfl
  unfold Blk at h h'
  rw [h] at h'
  injection h' with h'
  injection h' with _ ht
  exact hne ht
theorem own_blk_ne {base : Nat} {e : TypeId} {size n : Nat} {v : Value} {xs : List Value} (h : w.ownsRow base e size v n xs) (hg : Blk w g t cs) (hne : e ≠ t) : v.ownBlock ≠ some g := by
  rcases h.2 with ⟨rfl, _⟩ | ⟨g', cap, cur, rfl, _, hh, _⟩
  · simp [Value.ownBlock]
  · intro he
    have : g' = g := by simpa [Value.ownBlock] using he
    subst this
    exact Blk.ne_ (t := e) hh hg hne rfl
end
section
variable {P : Program} (w : World)
theorem run_append_of_nil (base : Nat) (t ty e : TypeId) (i : TypeInfo) (size : Nat) (ht : P.underlying t = some (.slice e)) (hi : P.info? e = some i)
    (v : Value) (n : Nat) (xs : List Value) (hown : w.ownsRow base e size v n xs) (c : Nat) : (Builtin.append_ #[t, t] ty #[v, .slice none 0 c]).run P w = .ok v w := by
  rcases hown.2 with ⟨rfl, rfl⟩ | ⟨g, cap, cur, rfl, _, _, hnc, _⟩
  · simp [Builtin.append_, run_underlying ht, sizeOf, typeInfo, hi, Builtin.lenOf, Builtin.firstCells]
  · simp [Builtin.append_, run_underlying ht, sizeOf, typeInfo, hi, Builtin.lenOf, Builtin.firstCells, hnc, storeCells]
theorem run_append_any (base : Nat) (t ty e : TypeId) (i : TypeInfo) (z : Value) (size bytes : Nat) (ht : P.underlying t = some (.slice e)) (hi : P.info? e = some i) (hz : i.zero = some z)
    (hsize : i.size = size) (hby : i.bytes = bytes) (hzs : z.cells.size = size) (hsz : 0 < size)
    (v : Value) (n : Nat) (xs : List Value) (hown : w.ownsRow base e size v n xs)
    (B : Nat) (A : Option Addr) (m c : Nat) (news : List Value) (hr : Reads w B size A m news) (h1 : ∀ u ∈ news, u.oneCell' = true)
    (h63 : n + m ≤ maxLen) (hbytes : (n + m) * bytes ≤ 140737488355328) (hbase : base ≤ w.heap.size) :
    ∃ v' w', (Builtin.append_ #[t, t] ty #[v, .slice A m c]).run P w = .ok v' w' ∧ w'.ownsRow base e size v' (n + m) (xs ++ news) ∧ w.grownBy w' v.ownBlock ∧
      (v'.ownBlock = v.ownBlock ∨ v'.ownBlock = some w.heap.size) := by
  rcases A with _ | ad
  · have hm : m = 0 := by
      rcases Nat.eq_zero_or_pos m with h0 | h0
      · exact h0
      · obtain ⟨ad, h, _⟩ := hr.2 h0
        cases h
    subst hm
    have hn : news = [] := List.eq_nil_of_length_eq_zero (by simpa using hr.1)
    subst hn
    exact ⟨v, w, run_append_of_nil w base t ty e i size ht hi v n xs hown c, by simpa using hown, World.grownBy.refl w _, .inl rfl⟩
  · have hcells : ∀ j u, news[j]? = some u → w.cell? (ad.add j) = some u := by
      intro j u hu
      rcases Nat.eq_zero_or_pos m with h0 | h0
      · subst h0
        have hn : news = [] := List.eq_nil_of_length_eq_zero (by simpa using hr.1)
        subst hn
        simp at hu
      · obtain ⟨ad', h, _, hc⟩ := hr.2 h0
        injection h with h
        subst h
        exact hc j u hu
    obtain ⟨v', w', hrun, h2, h3, _, h5⟩ := run_append_own_at (P := P) w base t ty e i z size bytes ht hi hz hsize hby hzs hsz v n xs hown ad m c news hr.1 hcells h1 h63 hbytes hbase
    exact ⟨v', w', hrun, h2, h3, h5⟩
theorem wp_append_any {o : Oper} {a : Act} {K : Act → World → Prop} {Q : Exit → Act → World → Prop} (s x : Operand) (t : TypeId)
    (ho : o.op = .call { callee := .builtin .append, args := #[s, x], argTypes := #[t, t] })
    (base : Nat) (e : TypeId) (i : TypeInfo) (z : Value) (size bytes : Nat) (ht : P.underlying t = some (.slice e)) (hi : P.info? e = some i) (hz : i.zero = some z)
    (hsize : i.size = size) (hby : i.bytes = bytes) (hzs : z.cells.size = size) (hsz : 0 < size)
    (v : Value) (n : Nat) (xs : List Value) (hs : a.eval s = v) (hown : w.ownsRow base e size v n xs)
    (B : Nat) (A : Option Addr) (m c : Nat) (news : List Value) (hx : a.eval x = .slice A m c) (hr : Reads w B size A m news) (h1 : ∀ u ∈ news, u.oneCell' = true)
    (h63 : n + m ≤ maxLen) (hbytes : (n + m) * bytes ≤ 140737488355328) (hbase : base ≤ w.heap.size)
    (h : ∀ v' w', w'.ownsRow base e size v' (n + m) (xs ++ news) → w.grownBy w' v.ownBlock → (v'.ownBlock = v.ownBlock ∨ v'.ownBlock = some w.heap.size) → K (a.put o.dst v') w') : o.wp P a w K Q := by
  obtain ⟨v', w', hrun, h2, h3, h4⟩ := run_append_any (P := P) w base t o.type e i z size bytes ht hi hz hsize hby hzs hsz v n xs hown B A m c news hr h1 h63 hbytes hbase
  unfold Oper.wp execOp
  simp only [ho, resolve, invoke, builtin, Sem.run_bind, Sem.run_pure, Result.andThen_ok, List.map_toArray, List.map_cons, List.map_nil, hs, hx, hrun]
  exact h v' w' h2 h3 h4
theorem wpList_append_any {ops : Array Oper} {rest : List Oper} {o : Oper} {a : Act} {Q : Exit → Act → World → Prop} (hgd : o.guard = none) (s x : Operand) (t : TypeId)
    (ho : o.op = .call { callee := .builtin .append, args := #[s, x], argTypes := #[t, t] })
    (base : Nat) (e : TypeId) (i : TypeInfo) (z : Value) (size bytes : Nat) (ht : P.underlying t = some (.slice e)) (hi : P.info? e = some i) (hz : i.zero = some z)
    (hsize : i.size = size) (hby : i.bytes = bytes) (hzs : z.cells.size = size) (hsz : 0 < size)
    (v : Value) (n : Nat) (xs : List Value) (hs : a.eval s = v) (hown : w.ownsRow base e size v n xs)
    (B : Nat) (A : Option Addr) (m c : Nat) (news : List Value) (hx : a.eval x = .slice A m c) (hr : Reads w B size A m news) (h1 : ∀ u ∈ news, u.oneCell' = true)
    (h63 : n + m ≤ maxLen) (hbytes : (n + m) * bytes ≤ 140737488355328) (hbase : base ≤ w.heap.size)
    (h : ∀ v' w', w'.ownsRow base e size v' (n + m) (xs ++ news) → w.grownBy w' v.ownBlock → (v'.ownBlock = v.ownBlock ∨ v'.ownBlock = some w.heap.size) → wpList P ops Q rest (a.put o.dst v') w') : wpList P ops Q (o :: rest) a w :=
  wpList_plain hgd fun _ hK => wp_append_any w s x t ho base e i z size bytes ht hi hz hsize hby hzs hsz v n xs hs hown B A m c news hx hr h1 h63 hbytes hbase fun v' w' h2 h3 h4 => hK _ _ (h v' w' h2 h3 h4)
theorem step_append_any {ops : Array Oper} {o : Oper} {a : Act} {K : Act → World → Prop} {Q : Exit → Act → World → Prop} {E : Prop} (hgd : o.guard = none) (s x : Operand) (t : TypeId)
    (ho : o.op = .call { callee := .builtin .append, args := #[s, x], argTypes := #[t, t] })
    (base : Nat) (e : TypeId) (i : TypeInfo) (z : Value) (size bytes : Nat) (ht : P.underlying t = some (.slice e)) (hi : P.info? e = some i) (hz : i.zero = some z)
    (hsize : i.size = size) (hby : i.bytes = bytes) (hzs : z.cells.size = size) (hsz : 0 < size)
    (v : Value) (n : Nat) (xs : List Value) (hs : a.eval s = v) (hown : w.ownsRow base e size v n xs)
    (B : Nat) (A : Option Addr) (m c : Nat) (news : List Value) (hx : a.eval x = .slice A m c) (hr : Reads w B size A m news) (h1 : ∀ u ∈ news, u.oneCell' = true)
    (h63 : n + m ≤ maxLen) (hbytes : (n + m) * bytes ≤ 140737488355328) (hbase : base ≤ w.heap.size)
    (h : ∀ v' w', w'.ownsRow base e size v' (n + m) (xs ++ news) → w.grownBy w' v.ownBlock → (v'.ownBlock = v.ownBlock ∨ v'.ownBlock = some w.heap.size) → K (a.put o.dst v') w') :
    if Region.wanted o (yielded ops a.tmps) = true then Oper.wp P o a w K Q else E := by
  have hw : Region.wanted o (yielded ops a.tmps) = true := by simp [Region.wanted, hgd]
  rw [if_pos hw]
  exact wp_append_any w s x t ho base e i z size bytes ht hi hz hsize hby hzs hsz v n xs hs hown B A m c news hx hr h1 h63 hbytes hbase h
end
/-- Two growths of one row, one behind the other. -/
theorem grownBy_trans2 {w w' w'' : World} {v v' : Value} (h : w.grownBy w' v.ownBlock) (hv : v'.ownBlock = v.ownBlock ∨ v'.ownBlock = some w.heap.size) (h' : w'.grownBy w'' v'.ownBlock) : w.grownBy w'' v.ownBlock :=
  ⟨h'.os.trans h.os, h'.tape.trans h.tape, h'.output.trans h.output, Nat.le_trans h.size h'.size, fun k hk hne => by
    rw [h'.block k (Nat.lt_of_lt_of_le hk h.size) (by
      rcases hv with e | e
      · rw [e]; exact hne
      · rw [e]; intro hs; injection hs with hs; omega), h.block k hk hne]⟩
/-- What a growth of an own row does to memory. 'Grew w w' v v'': no block but v's has turned, and v' lies where v lay or in a new block. -/
structure Grew (w w' : World) (v v' : Value) : Prop where
  by_ : w.grownBy w' v.ownBlock
  at_ : v'.ownBlock = v.ownBlock ∨ ∃ g, v'.ownBlock = some g ∧ w.heap.size ≤ g
theorem Grew.refl (w : World) (v : Value) : Grew w w v v := ⟨World.grownBy.refl w _, .inl rfl⟩
theorem Grew.trans {w w' w'' : World} {v v' v'' : Value} (h : Grew w w' v v') (h' : Grew w' w'' v' v'') : Grew w w'' v v'' :=
  ⟨⟨h'.by_.os.trans h.by_.os, h'.by_.tape.trans h.by_.tape, h'.by_.output.trans h.by_.output, Nat.le_trans h.by_.size h'.by_.size, fun k hk hne => by
    rw [h'.by_.block k (Nat.lt_of_lt_of_le hk h.by_.size) (by
      rcases h.at_ with e | ⟨g, e, hg⟩
      · rw [e]; exact hne
      · rw [e]; intro hs; injection hs with hs; omega), h.by_.block k hk hne]⟩, by
    rcases h'.at_ with e | ⟨g, e, hg⟩
    · rw [e]; exact h.at_
    · exact .inr ⟨g, e, Nat.le_trans h.by_.size hg⟩⟩
theorem Grew.alloc {w w' : World} {v v' : Value} (h : Grew w w' v v') (o : Obj) : Grew w (w'.alloc o) v v' :=
  ⟨⟨h.by_.os, h.by_.tape, h.by_.output, Nat.le_trans h.by_.size (by simp), fun k hk hne => (Below.heap_alloc _ _ _ (Nat.lt_of_lt_of_le hk h.by_.size)).trans (h.by_.block k hk hne)⟩, h.at_⟩
theorem Grew.drew {w w' : World} {v v' : Value} (h : Grew w w' v v') : Grew w w'.drew v v' := ⟨⟨h.by_.os, h.by_.tape, h.by_.output, h.by_.size, h.by_.block⟩, h.at_⟩
theorem Grew.of_alloc {w w' : World} {v v' : Value} {o : Obj} (hv : ∀ k, v.ownBlock = some k → k < w.heap.size) (h : Grew (w.alloc o) w' v v') : Grew w w' v v' :=
  ⟨⟨h.by_.os, h.by_.tape, h.by_.output, Nat.le_trans (by simp) h.by_.size, fun k hk hne => (h.by_.block k (by simp; omega) hne).trans (Below.heap_alloc _ _ _ hk)⟩, by
    rcases h.at_ with e | ⟨g, e, hg⟩
    · exact .inl e
    · exact .inr ⟨g, e, by simp at hg; omega⟩⟩
theorem Grew.of_drew {w w' : World} {v v' : Value} (h : Grew w.drew w' v v') : Grew w w' v v' := ⟨⟨h.by_.os, h.by_.tape, h.by_.output, h.by_.size, h.by_.block⟩, h.at_⟩
theorem Grew.of_law {w w' : World} {v v' : Value} (hg : w.grownBy w' v.ownBlock) (hat : v'.ownBlock = v.ownBlock ∨ v'.ownBlock = some w.heap.size) : Grew w w' v v' :=
  ⟨hg, hat.elim .inl fun e => .inr ⟨_, e, Nat.le_refl _⟩⟩
/-- Below a base that the row lies above, nothing has turned. -/
theorem Grew.below {w w' : World} {v v' : Value} {B : Nat} (h : Grew w w' v v') (hB : B ≤ w.heap.size) (hv : ∀ k, v.ownBlock = some k → B ≤ k) : Below B w w' :=
  (Below.refl B w).grown h.by_ hB hv
/-- Bytes that the call owns. -/
def B8 (c : UInt8) : Value := .int .u8 (c.toNat : Int)
def OwnB (w : World) (base : Nat) (v : Value) (l : List UInt8) : Prop := w.ownsRow base 5 1 v l.length (l.map B8)
theorem OwnB.nil (w : World) (base : Nat) : OwnB w base (.slice none 0 0) [] := World.ownsRow_nil w base _ 1
theorem OwnB.lt {w : World} {base : Nat} {v : Value} {l : List UInt8} (h : OwnB w base v l) : ∀ k, v.ownBlock = some k → base ≤ k ∧ k < w.heap.size := World.ownsRow.lt h
theorem OwnB.alloc {w : World} {base : Nat} {v : Value} {l : List UInt8} (h : OwnB w base v l) (o : Obj) : OwnB (w.alloc o) base v l := World.ownsRow.alloc h o
theorem OwnB.drew {w : World} {base : Nat} {v : Value} {l : List UInt8} (h : OwnB w base v l) : OwnB w.drew base v l := h
theorem OwnB.form {w : World} {base : Nat} {v : Value} {l : List UInt8} (h : OwnB w base v l) : ∃ A cap, v = .slice A l.length cap := by
  rcases h.2 with ⟨rfl, e⟩ | ⟨g, cap, cur, rfl, _⟩
  · exact ⟨none, 0, by rw [e]⟩
  · exact ⟨_, cap, rfl⟩
theorem OwnB.reads {w : World} {base : Nat} {A : Option Addr} {c n : Nat} {l : List UInt8} (h : OwnB w base (.slice A n c) l) : n = l.length ∧ Reads w w.heap.size 1 A l.length (l.map B8) := by
  obtain ⟨A', cap, e⟩ := h.form
  injection e with e1 e2 e3
  subst e1 e2 e3
  exact ⟨rfl, Reads.of_own h⟩
theorem OwnB.of_law {w : World} {base : Nat} {v : Value} {l m : List UInt8} {n : Nat} (h : w.ownsRow base 5 1 v n (l.map B8 ++ m.map B8)) : OwnB w base v (l ++ m) := by
  have hl : n = (l ++ m).length := by have := h.1; simp at this; simp; omega
  subst hl
  unfold OwnB
  rw [List.map_append]
  exact h
/-- A byte in a new block. -/
theorem new_byte (w : World) (X : Int) (c : UInt8) (t : TypeId) (h : X = ((c.toNat : Nat) : Int)) : Reads (w.alloc (.cells #[.int .u8 X] t)) (w.heap.size + 1) 1 (some ⟨w.heap.size, 0, none⟩) 1 [B8 c] := by
  refine ⟨rfl, fun _ => ⟨_, rfl, by simp, fun j u hu => ?_⟩⟩
  cases j with
  | zero =>
    simp at hu
    subst hu
    simp only [Addr.add, if_true]
    rw [World.cell?_alloc_new, h]
    rfl
  | succ j => simp at hu
/-- Own bytes az a text. -/
theorem empty_bytes : ByteArray.empty = ⟨([] : List UInt8).toArray⟩ := rfl
set_option maxRecDepth 100000 in
theorem OwnB.text {w : World} {base : Nat} {v : Value} {l : List UInt8} (h : OwnB w base v l) : (convert 97 9 v).run Tryz.prog w = .ok (.string ⟨l.toArray⟩) w := by
  rcases h.2 with ⟨rfl, e⟩ | ⟨g, cap, cur, rfl, hb, hg, hle, hcap, hs, hx⟩
  · have hl : l = [] := List.eq_nil_of_length_eq_zero e
    subst hl
    have h0 := run_convert_bytes_nil (P := Tryz.prog) w 97 5 Tryz.underlying97 Tryz.underlying5 0 0 9 Tryz.underlying9
    rw [h0, empty_bytes]
  · have := run_convert_bytes_arg (P := Tryz.prog) w 97 5 Tryz.underlying97 Tryz.underlying5 g 0 l.length cap (l.map fun c => (c.toNat : Int)) (by simp) (fun i hi => by
      have hc := World.ownsRow.cellAt h i (by simpa using hi)
      rw [Nat.zero_add, hc]
      simp [B8, List.getD, hi]) 9 Tryz.underlying9
    rw [this]
    congr 2
    unfold strOfNums
    congr 1
    simp [List.map_map, Function.comp_def]
theorem u8_info : (Tryz.prog.info? 5).map (fun i => (i.zero, i.size, i.bytes)) = some (some (.int .u8 0), 1, 1) := by kernel_rfl
theorem conv_bytes (w : World) (s : ByteArray) : ∃ cap W2, (convert 9 97 (.string s)).run Tryz.prog w = .ok (.slice (some ⟨w.heap.size, 0, none⟩) s.size cap) W2 ∧ Below w.heap.size w W2 ∧ W2.heap.size = w.heap.size + 1 ∧ ∀ j, j < s.size → W2.cell? ⟨w.heap.size, j, none⟩ = some (B8 (s.data.toList.getD j 0)) :=
  ⟨_, _, Lib.run_convert_string_bytes w 9 97 5 s Tryz.underlying9 Tryz.underlying97 Tryz.underlying5,
    ⟨rfl, rfl, rfl, by rw [Lib.bytesWorld_size]; omega, fun k hk => Lib.bytesWorld_at_old w _ s k hk⟩, Lib.bytesWorld_size w _ s, fun j hj => Lib.bytesWorld_cell w _ s j hj⟩
section
variable {P : Program} {ops : Array Oper} {Q : Exit → Act → World → Prop}
/-- The frame in which operation k's slot holds 'us k'. -/
def putAll : Nat → List Oper → (Nat → Value) → Act → Act
  | _, [], _, a => a
  | k, o :: l, us, a => putAll (k + 1) l us (a.put o.dst (us k))
def updU (us : Nat → Value) (i : Nat) (v : Value) : Nat → Value := fun k => if k = i then v else us k
def AllOps (H : Nat → Oper → Prop) : Nat → List Oper → Prop
  | _, [] => True
  | k, o :: l => H k o ∧ AllOps H (k + 1) l
theorem AllOps.at_ {H : Nat → Oper → Prop} : ∀ (l : List Oper) (k : Nat), AllOps H k l → ∀ j o, l[j]? = some o → H (k + j) o
  | [], _, _, j, o, h => by simp at h
  | x :: l, k, hh, 0, o, h => by simp at h; subst h; exact hh.1
  | x :: l, k, hh, j + 1, o, h => by
    have := AllOps.at_ l (k + 1) hh.2 j o (by simpa using h)
    rwa [show k + 1 + j = k + (j + 1) from by omega] at this
/-- Every edge leads back. -/
def backB (ops : List Oper) : Bool := (ops.zipIdx).all fun (o, i) => o.after.all fun e => !Region.binds .any e || decide (e.on < i)
theorem ready_none {ops : Array Oper} (hb : backB ops.toList = true) {listed : Array Bool} (hs : listed.size = ops.size) (h : Region.ready .any ops listed = []) : ∀ i, i < ops.size → listed.getD i false = true := by
  intro i
  induction i using Nat.strongRecOn with
  | ind i ih =>
    intro hi
    rcases Bool.eq_false_or_eq_true (listed.getD i false) with hl | hl
    · exact hl
    · exfalso
      have hm : i ∈ Region.ready .any ops listed := by
        rw [mem_ready]
        refine ⟨?_, ops[i], Array.getElem?_eq_getElem hi, ?_⟩
        · have : i < listed.size := by omega
          simp [Array.getD, this] at hl ⊢
          exact hl
        · intro e he hbind
          unfold backB at hb
          rw [List.all_eq_true] at hb
          have h1 := hb (ops[i], i) (by rw [List.mem_zipIdx_iff_getElem?]; simp [hi])
          simp only [Array.all_eq_true_iff_forall_mem] at h1
          have h2 := h1 e he
          simp [hbind] at h2
          exact ih e.on h2 (by omega)
      rw [h] at hm
      cases hm
/-- No two operations write one slot. -/
def dstNe (a b : Option Tmp) : Bool := match a, b with
  | some x, some y => x != y
  | _, _ => true
def apartB : List Oper → Bool
  | [] => true
  | o :: l => (l.all fun p => dstNe o.dst p.dst) && apartB l
theorem put_comm2 (a : Act) (d e : Option Tmp) (v u : Value) (h : dstNe d e = true) : (a.put d v).put e u = (a.put e u).put d v := by
  cases d <;> cases e <;> simp [Act.put]
  rename_i x y
  have : x ≠ y := by simpa [dstNe] using h
  rw [Array.setIfInBounds_comm _ _ this]
theorem put_put (a : Act) (d : Option Tmp) (v u : Value) : (a.put d v).put d u = a.put d u := by
  cases d <;> simp [Act.put]
theorem putAll_congr : ∀ (l : List Oper) (k : Nat) (us us' : Nat → Value) (a : Act), (∀ j, k ≤ j → us j = us' j) → putAll k l us a = putAll k l us' a
  | [], _, _, _, _, _ => rfl
  | o :: l, k, us, us', a, h => by
    unfold putAll
    rw [h k (Nat.le_refl _)]
    exact putAll_congr l (k + 1) us us' _ (fun j hj => h j (by omega))
theorem putAll_out : ∀ (l : List Oper) (k : Nat) (us : Nat → Value) (a : Act) (d : Option Tmp) (v : Value), (l.all fun p => dstNe d p.dst) = true → (putAll k l us a).put d v = putAll k l us (a.put d v)
  | [], _, _, _, _, _, _ => rfl
  | o :: l, k, us, a, d, v, h => by
    simp only [List.all_cons, Bool.and_eq_true] at h
    unfold putAll
    rw [putAll_out l (k + 1) us _ d v h.2, put_comm2 a d o.dst v (us k) h.1]
theorem putAll_put : ∀ (l : List Oper) (k : Nat) (us : Nat → Value) (a : Act) (i : Nat) (o : Oper) (v : Value), apartB l = true → l[i]? = some o → (putAll k l us a).put o.dst v = putAll k l (updU us (k + i) v) a
  | [], _, _, _, _, _, _, _, h => by simp at h
  | x :: l, k, us, a, 0, o, v, hb, h => by
    simp at h
    subst h
    simp only [apartB, Bool.and_eq_true] at hb
    unfold putAll
    rw [putAll_out l (k + 1) us _ x.dst v hb.1, put_put, putAll_congr l (k + 1) us (updU us (k + 0) v) _ (fun j hj => by unfold updU; rw [if_neg (by omega)])]
    simp [updU]
  | x :: l, k, us, a, i + 1, o, v, hb, h => by
    simp only [apartB, Bool.and_eq_true] at hb
    unfold putAll
    rw [putAll_put l (k + 1) us _ i o v hb.2 (by simpa using h)]
    have e1 : updU us (k + (i + 1)) v k = us k := by unfold updU; rw [if_neg (by omega)]
    rw [e1, show k + 1 + i = k + (i + 1) from by omega]
theorem count_set : ∀ (l : List Bool) (i : Nat), l[i]? = some false → (l.set i true).count false + 1 = l.count false
  | [], i, h => by simp at h
  | b :: l, 0, h => by simp at h; subst h; simp
  | b :: l, i + 1, h => by
    have := count_set l i (by simpa using h)
    simp only [List.set_cons_succ, List.count_cons]
    omega
theorem wp_region_typed {id : Nat} {a0 : Act} {w0 : World} {l : List Oper} (R : World → World → Prop) (τ : Nat → Value → World → Prop) (us0 : Nat → Value)
    (hm : P.follows .mixedOrders = true) (hb : backB l = true)
    (hap : apartB l = true)
    (hrefl : R w0 w0.drew) (hreflw : ∀ w, R w w) (htrans : ∀ a b c, R a b → R b c → R a c)
    (h0 : putAll 0 l us0 a0 = a0)
    (hmono : ∀ k v w w', τ k v w → R w w' → τ k v w')
    (hop : AllOps (fun i o => ∀ us w, R w0 w → (∀ k, (∃ e, e ∈ o.after ∧ Region.binds .any e = true ∧ e.on = k) → τ k (us k) w) →
      if Region.wanted o (yielded l.toArray (putAll 0 l us a0).tmps) = true then o.wp P (putAll 0 l us a0) w (fun a' w' => ∃ v, a' = (putAll 0 l us a0).put o.dst v ∧ R w w' ∧ τ i v w') Q else τ i undef w) 0 l)
    (hend : ∀ us w, R w0 w → (∀ i, i < l.length → τ i (us i) w) → Q .normal (putAll 0 l us a0) w) : (Code.region id l.toArray true).wp P Q a0 w0 := by
  have hF : ∀ us i o v, l[i]? = some o → (putAll 0 l us a0).put o.dst v = putAll 0 l (updU us i v) a0 := fun us i o v h => by
    have := putAll_put l 0 us a0 i o v hap h
    rwa [Nat.zero_add] at this
  have key : ∀ (fuel : Nat) (listed : Array Bool) (us : Nat → Value) (w : World), listed.size = l.length → listed.toList.count false ≤ fuel → R w0 w → (∀ i, listed.getD i false = true → τ i (us i) w) →
      wpAny P .any l.toArray Q fuel listed (putAll 0 l us a0) w := by
    intro fuel
    induction fuel with
    | zero =>
      intro listed us w hs hc hR ht
      have hall : ∀ i, i < l.length → listed.getD i false = true := by
        intro i hi
        have h1 : i < listed.size := by omega
        have h2 : listed.toList.count false = 0 := by omega
        rw [List.count_eq_zero] at h2
        have h3 : listed[i] ≠ false := fun e => h2 (by rw [← e]; exact Array.getElem_mem_toList h1)
        simp [Array.getD, h1]
        simpa using h3
      refine ⟨?_, hend us w hR (fun i hi => ht i (hall i hi))⟩
      rw [List.eq_nil_iff_forall_not_mem]
      intro i hi
      rw [mem_ready] at hi
      have h1 : i < listed.size := by
        rcases Nat.lt_or_ge i listed.size with h | h
        · exact h
        · have := hi.1
          simp [Array.getD, Nat.not_lt.2 h] at this
      have h2 := hall i (by omega)
      have h3 := hi.1
      simp [Array.getD, h1] at h2 h3
      rw [h2] at h3
      cases h3
    | succ fuel ih =>
      intro listed us w hs hc hR ht
      refine ⟨fun h => hend us w hR (fun i hi => ht i (ready_none (ops := l.toArray) (by simpa using hb) (by simpa using hs) h i (by simpa using hi))), fun i hi => ?_⟩
      rw [mem_ready] at hi
      obtain ⟨hun, o, ho, hedge⟩ := hi
      have hl : l[i]? = some o := by simpa using ho
      have h1 : i < listed.size := by
        rw [hs]
        exact (List.getElem?_eq_some_iff.1 hl).1
      have hun' : listed[i] = false := by simpa [Array.getD, h1] using hun
      have hop' := AllOps.at_ l 0 hop i o hl
      rw [Nat.zero_add] at hop'
      have hop2 := hop' us w hR (fun k ⟨e, he, hbd, hk⟩ => hk ▸ ht _ (hedge e he hbd))
      have next : ∀ v w', R w w' → τ i v w' → wpAny P .any l.toArray Q fuel (listed.setIfInBounds i true) ((putAll 0 l us a0).put o.dst v) w' := by
        intro v w' hR' hv
        rw [hF us i o v hl]
        refine ih _ _ _ (by simpa using hs) ?_ (htrans _ _ _ hR hR') (fun k hk => ?_)
        · have := count_set listed.toList i (by rw [Array.getElem?_toList, Array.getElem?_eq_getElem h1, hun'])
          rw [Array.toList_setIfInBounds]
          omega
        · unfold updU
          by_cases hki : k = i
          · subst hki
            rw [if_pos rfl]
            exact hv
          · rw [if_neg hki]
            refine hmono _ _ _ _ (ht k ?_) hR'
            have : i ≠ k := fun e => hki e.symm
            simp only [Array.getD_eq_getD_getElem?, Array.getElem?_setIfInBounds_ne this] at hk ⊢
            exact hk
      unfold wpOp
      simp only [ho]
      by_cases hw : Region.wanted o (yielded l.toArray (putAll 0 l us a0).tmps) = true
      · rw [if_pos hw] at hop2 ⊢
        refine .inl (Oper.wp_mono ?_ hop2)
        rintro a' w' ⟨v, rfl, hR', hv⟩
        exact next v w' hR' hv
      · rw [if_neg hw] at hop2 ⊢
        exact next undef w (hreflw w) hop2
  have hfin := key l.toArray.size (Array.replicate l.toArray.size false) us0 w0.drew (by simp) (by simp) hrefl (fun i hi => by
    exfalso
    by_cases h : i < l.toArray.size
    · simp [Array.getD, h] at hi
    · simp [Array.getD, h] at hi)
  rw [h0] at hfin
  exact wp_region_any hm hfin
/-- The same rule, an operation's goal freed of the rest of the function: any continuation, any ending. -/
def OpOk (P : Program) (a0 : Act) (w0 : World) (l : List Oper) (R : World → World → Prop) (τ : Nat → Value → World → Prop) (us0 : Nat → Value) (i : Nat) (o : Oper) : Prop :=
  ∀ (us : Nat → Value) (w : World), R w0 w → (∀ k, (∃ e, e ∈ o.after ∧ Region.binds .any e = true ∧ e.on = k) → τ k (us k) w) →
    (Region.wanted o (yielded l.toArray (putAll 0 l us a0).tmps) = true ∧
      ∀ (K : Act → World → Prop) (Q : Exit → Act → World → Prop), (∀ v w', R w w' → τ i v w' → K ((putAll 0 l us a0).put o.dst v) w') → o.wp P (putAll 0 l us a0) w K Q) ∨
    (¬ Region.wanted o (yielded l.toArray (putAll 0 l us a0).tmps) = true ∧ τ i undef w)
theorem wp_region_ops {id : Nat} {a0 : Act} {w0 : World} {l : List Oper} (R : World → World → Prop) (τ : Nat → Value → World → Prop) (us0 : Nat → Value)
    (hm : P.follows .mixedOrders = true) (hb : backB l = true)
    (hap : apartB l = true)
    (hrefl : R w0 w0.drew) (hreflw : ∀ w, R w w) (htrans : ∀ a b c, R a b → R b c → R a c)
    (h0 : putAll 0 l us0 a0 = a0)
    (hmono : ∀ k v w w', τ k v w → R w w' → τ k v w')
    (hop : AllOps (OpOk P a0 w0 l R τ us0) 0 l)
    (hend : ∀ us w, R w0 w → (∀ i, i < l.length → τ i (us i) w) → Q .normal (putAll 0 l us a0) w) : (Code.region id l.toArray true).wp P Q a0 w0 := by
  refine wp_region_typed R τ us0 hm hb hap hrefl hreflw htrans h0 hmono ?_ hend
  have conv : ∀ (ll : List Oper) (k : Nat), AllOps (OpOk P a0 w0 l R τ us0) k ll → AllOps (fun i o => ∀ us w, R w0 w → (∀ k, (∃ e, e ∈ o.after ∧ Region.binds .any e = true ∧ e.on = k) → τ k (us k) w) →
      if Region.wanted o (yielded l.toArray (putAll 0 l us a0).tmps) = true then o.wp P (putAll 0 l us a0) w (fun a' w' => ∃ v, a' = (putAll 0 l us a0).put o.dst v ∧ R w w' ∧ τ i v w') Q else τ i undef w) k ll := by
    intro ll
    induction ll with
    | nil => exact fun _ _ => trivial
    | cons o ll ih =>
      rintro k ⟨h1, h2⟩
      refine ⟨fun us w hR hp => ?_, ih _ h2⟩
      rcases h1 us w hR hp with ⟨hw, h⟩ | ⟨hw, h⟩
      · rw [if_pos hw]
        exact h _ _ (fun v w' hr ht => ⟨v, rfl, hr, ht⟩)
      · rw [if_neg hw]
        exact h
  exact conv l 0 hop
/-- The most general rule: an invariant that may know which operations have come up. -/
def setD (d : Nat → Bool) (i : Nat) : Nat → Bool := fun k => if k = i then true else d k
def OpInv (P : Program) (a0 : Act) (l : List Oper) (I : (Nat → Bool) → (Nat → Value) → World → Prop) (i : Nat) (o : Oper) : Prop :=
  ∀ (d : Nat → Bool) (us : Nat → Value) (w : World), I d us w → d i = false → (∀ k, (∃ e, e ∈ o.after ∧ Region.binds .any e = true ∧ e.on = k) → d k = true) →
    ∀ us' : Nat → Value, us' = us → (Region.wanted o (yielded l.toArray (putAll 0 l us' a0).tmps) = true ∧
      ∀ (K : Act → World → Prop) (Q : Exit → Act → World → Prop), (∀ v w', I (setD d i) (updU us i v) w' → K ((putAll 0 l us a0).put o.dst v) w') → o.wp P (putAll 0 l us a0) w K Q) ∨
    (¬ Region.wanted o (yielded l.toArray (putAll 0 l us' a0).tmps) = true ∧ I (setD d i) (updU us i undef) w)
theorem wp_region_inv {id : Nat} {a0 : Act} {w0 : World} {l : List Oper} (I : (Nat → Bool) → (Nat → Value) → World → Prop) (us0 : Nat → Value)
    (hm : P.follows .mixedOrders = true) (hb : backB l = true)
    (hap : apartB l = true)
    (h0 : putAll 0 l us0 a0 = a0)
    (hst : I (fun _ => false) us0 w0.drew)
    (hop : AllOps (OpInv P a0 l I) 0 l)
    (hend : ∀ d us w, I d us w → (∀ i, i < l.length → d i = true) → Q .normal (putAll 0 l us a0) w) : (Code.region id l.toArray true).wp P Q a0 w0 := by
  have hF : ∀ us i o v, l[i]? = some o → (putAll 0 l us a0).put o.dst v = putAll 0 l (updU us i v) a0 := fun us i o v h => by
    have := putAll_put l 0 us a0 i o v hap h
    rwa [Nat.zero_add] at this
  have key : ∀ (fuel : Nat) (listed : Array Bool) (us : Nat → Value) (w : World), listed.size = l.length → listed.toList.count false ≤ fuel → I (fun k => listed.getD k false) us w →
      wpAny P .any l.toArray Q fuel listed (putAll 0 l us a0) w := by
    intro fuel
    induction fuel with
    | zero =>
      intro listed us w hs hc hI
      have hall : ∀ i, i < l.length → listed.getD i false = true := by
        intro i hi
        have h1 : i < listed.size := by omega
        have h2 : listed.toList.count false = 0 := by omega
        rw [List.count_eq_zero] at h2
        have h3 : listed[i] ≠ false := fun e => h2 (by rw [← e]; exact Array.getElem_mem_toList h1)
        simp [Array.getD, h1]
        simpa using h3
      refine ⟨?_, hend _ us w hI (fun i hi => hall i hi)⟩
      rw [List.eq_nil_iff_forall_not_mem]
      intro i hi
      rw [mem_ready] at hi
      have h1 : i < listed.size := by
        rcases Nat.lt_or_ge i listed.size with h | h
        · exact h
        · have := hi.1
          simp [Array.getD, Nat.not_lt.2 h] at this
      have h2 := hall i (by omega)
      have h3 := hi.1
      simp [Array.getD, h1] at h2 h3
      rw [h2] at h3
      cases h3
    | succ fuel ih =>
      intro listed us w hs hc hI
      refine ⟨fun h => hend _ us w hI (fun i hi => ready_none (ops := l.toArray) (by simpa using hb) (by simpa using hs) h i (by simpa using hi)), fun i hi => ?_⟩
      rw [mem_ready] at hi
      obtain ⟨hun, o, ho, hedge⟩ := hi
      have hl : l[i]? = some o := by simpa using ho
      have h1 : i < listed.size := by
        rw [hs]
        exact (List.getElem?_eq_some_iff.1 hl).1
      have hun' : listed[i] = false := by simpa [Array.getD, h1] using hun
      have hop' := AllOps.at_ l 0 hop i o hl
      rw [Nat.zero_add] at hop'
      have hop2 := hop' _ us w hI (by simp [Array.getD, h1, hun']) (fun k ⟨e, he, hbd, hk⟩ => hk ▸ hedge e he hbd) us rfl
      have hset : (fun k => (listed.setIfInBounds i true).getD k false) = setD (fun k => listed.getD k false) i := by
        funext k
        unfold setD
        by_cases hki : k = i
        · subst hki
          simp [Array.getD, h1]
        · have : i ≠ k := fun e => hki e.symm
          rw [if_neg hki]
          simp only [Array.getD_eq_getD_getElem?, Array.getElem?_setIfInBounds_ne this]
      have next : ∀ v w', I (setD (fun k => listed.getD k false) i) (updU us i v) w' → wpAny P .any l.toArray Q fuel (listed.setIfInBounds i true) ((putAll 0 l us a0).put o.dst v) w' := by
        intro v w' hI'
        rw [hF us i o v hl]
        refine ih _ _ _ (by simpa using hs) ?_ (by rw [hset]; exact hI')
        have := count_set listed.toList i (by rw [Array.getElem?_toList, Array.getElem?_eq_getElem h1, hun'])
        rw [Array.toList_setIfInBounds]
        omega
      unfold wpOp
      simp only [ho]
      rcases hop2 with ⟨hw, h⟩ | ⟨hw, h⟩
      · rw [if_pos hw]
        exact .inl (h _ _ (fun v w' h => next v w' h))
      · rw [if_neg hw]
        exact next undef w h
  have hfin := key l.toArray.size (Array.replicate l.toArray.size false) us0 w0.drew (by simp) (by simp) (by
    have : (fun k => (Array.replicate l.toArray.size false).getD k false) = (fun _ => false) := by
      funext k
      by_cases h : k < l.toArray.size
      · simp [Array.getD, h]
      · simp [Array.getD, h]
    rw [this]
    exact hst)
  rw [h0] at hfin
  exact wp_region_any hm hfin
/-- Does operation k wait (through others too) for operation i? -/
def laterB (l : List Oper) (i : Nat) : Nat → Nat → Bool
  | 0, _ => false
  | f + 1, k => match l[k]? with
    | none => false
    | some o => o.after.toList.any fun e => Region.binds .any e && (e.on == i || laterB l i f e.on)
def Shut (l : List Oper) (d : Nat → Bool) : Prop := ∀ k o, l[k]? = some o → d k = true → ∀ e, e ∈ o.after → Region.binds .any e = true → d e.on = true
theorem laterB_not {l : List Oper} {d : Nat → Bool} {i : Nat} (hs : Shut l d) (hi : d i = false) : ∀ f k, laterB l i f k = true → d k = false
  | 0, _, h => by simp [laterB] at h
  | f + 1, k, h => by
    unfold laterB at h
    cases ho : l[k]? with
    | none => rw [ho] at h; simp at h
    | some o =>
      rw [ho] at h
      simp only [List.any_eq_true, Bool.and_eq_true, Bool.or_eq_true, beq_iff_eq] at h
      obtain ⟨e, he0, hb, h1⟩ := h
      have he : e ∈ o.after := by simpa using he0
      rcases Bool.eq_false_or_eq_true (d k) with hk | hk
      · have h2 := hs k o ho hk e he hb
        rcases h1 with h1 | h1
        · rw [h1, hi] at h2; cases h2
        · rw [laterB_not hs hi f e.on h1] at h2; cases h2
      · exact hk
def OpT (P : Program) (a0 : Act) (l : List Oper) (J : (Nat → Bool) → World → Prop) (τ : Nat → Value → World → Prop) (us0 : Nat → Value) (i : Nat) (o : Oper) : Prop :=
  ∀ (d : Nat → Bool) (us : Nat → Value) (w : World), d i = false → J d w → (∀ k, (∃ e, e ∈ o.after ∧ Region.binds .any e = true ∧ e.on = k) → d k = true ∧ τ k (us k) w) → (∀ k, laterB l i l.length k = true → d k = false ∧ us k = us0 k) → us i = us0 i →
    (Region.wanted o (yielded l.toArray (putAll 0 l us a0).tmps) = true ∧
      ∀ (K : Act → World → Prop) (Q : Exit → Act → World → Prop), (∀ v w', J (setD d i) w' → τ i v w' → (∀ k u, k ≠ i → τ k u w → τ k u w') → K ((putAll 0 l us a0).put o.dst v) w') → o.wp P (putAll 0 l us a0) w K Q) ∨
    (¬ Region.wanted o (yielded l.toArray (putAll 0 l us a0).tmps) = true ∧ J (setD d i) w ∧ τ i undef w)
theorem wp_region_task {id : Nat} {a0 : Act} {w0 : World} {l : List Oper} (J : (Nat → Bool) → World → Prop) (τ : Nat → Value → World → Prop) (us0 : Nat → Value)
    (hm : P.follows .mixedOrders = true) (hb : backB l = true)
    (hap : apartB l = true)
    (h0 : putAll 0 l us0 a0 = a0)
    (hst : J (fun _ => false) w0.drew)
    (hop : AllOps (OpT P a0 l J τ us0) 0 l)
    (hend : ∀ d us w, J d w → (∀ i, i < l.length → d i = true ∧ τ i (us i) w) → Q .normal (putAll 0 l us a0) w) : (Code.region id l.toArray true).wp P Q a0 w0 := by
  refine wp_region_inv (fun d us w => J d w ∧ Shut l d ∧ (∀ k, d k = true → τ k (us k) w) ∧ (∀ k, d k = false → us k = us0 k)) us0 hm hb hap h0 ⟨hst, (fun _ _ _ h => (by cases h)), (fun _ h => (by cases h)), fun _ _ => rfl⟩ ?_ (fun d us w hI hd => hend d us w hI.1 (fun i hi => ⟨hd i hi, hI.2.2.1 i (hd i hi)⟩))
  have shut : ∀ (i : Nat) (o : Oper) (d : Nat → Bool), l[i]? = some o → Shut l d → (∀ k, (∃ e, e ∈ o.after ∧ Region.binds .any e = true ∧ e.on = k) → d k = true) → Shut l (setD d i) := by
    intro i o d hl hs hp k o' ho' hk e he hbd
    unfold setD at hk ⊢
    by_cases hon : e.on = i
    · rw [if_pos hon]
    · rw [if_neg hon]
      by_cases hki : k = i
      · subst hki
        rw [hl] at ho'
        injection ho' with ho'
        subst ho'
        exact hp _ ⟨e, he, hbd, rfl⟩
      · rw [if_neg hki] at hk
        exact hs k o' ho' hk e he hbd
  have conv : ∀ (ll : List Oper) (k : Nat), (∀ j o, ll[j]? = some o → l[k + j]? = some o) → AllOps (OpT P a0 l J τ us0) k ll → AllOps (OpInv P a0 l (fun d us w => J d w ∧ Shut l d ∧ (∀ k, d k = true → τ k (us k) w) ∧ (∀ k, d k = false → us k = us0 k))) k ll := by
    intro ll
    induction ll with
    | nil => exact fun _ _ _ => trivial
    | cons o ll ih =>
      rintro k hat ⟨h1, h2⟩
      refine ⟨?_, ih (k + 1) (fun j o' h => by have := hat (j + 1) o' (by simpa using h); rwa [show k + (j + 1) = k + 1 + j from by omega] at this) h2⟩
      rintro d us w ⟨hJ, hs, ht, hu⟩ hd hp us' rfl
      have hlk : l[k]? = some o := by simpa using hat 0 o (by simp)
      have hs' := shut k o d hlk hs hp
      rcases h1 d us' w hd hJ (fun j hj => ⟨hp j hj, ht j (hp j hj)⟩) (fun j hj => have := laterB_not hs hd _ _ hj; ⟨this, hu j this⟩) (hu k hd) with ⟨hw, h⟩ | ⟨hw, hJ', ht'⟩
      · refine .inl ⟨hw, fun K Q hK => h K Q fun v w' hj hv hmono => hK v w' ⟨hj, hs', fun j hj => ?_, fun j hj => ?_⟩⟩
        · unfold setD at hj
          unfold updU
          by_cases hjk : j = k
          · subst hjk; rw [if_pos rfl]; exact hv
          · rw [if_neg hjk] at hj ⊢; exact hmono _ _ hjk (ht j hj)
        · unfold setD at hj
          unfold updU
          by_cases hjk : j = k
          · rw [if_pos hjk] at hj; cases hj
          · rw [if_neg hjk] at hj ⊢; exact hu j hj
      · refine .inr ⟨hw, hJ', hs', fun j hj => ?_, fun j hj => ?_⟩
        · unfold setD at hj
          unfold updU
          by_cases hjk : j = k
          · subst hjk; rw [if_pos rfl]; exact ht'
          · rw [if_neg hjk] at hj ⊢; exact ht j hj
        · unfold setD at hj
          unfold updU
          by_cases hjk : j = k
          · rw [if_pos hjk] at hj; cases hj
          · rw [if_neg hjk] at hj ⊢; exact hu j hj
  exact conv l 0 (fun j o h => by simpa using h) hop
end
/-- Slots' types that are plain values, but for some. -/
def tauL (vs : List (Option Value)) (Sp : Nat → Value → World → Prop) (k : Nat) (v : Value) (w : World) : Prop := match (vs[k]?).join with
  | some x => v = x
  | none => Sp k v w
def tauN : Nat → Value → World → Prop := fun _ _ _ => True
theorem tauL_mono {vs : List (Option Value)} {Sp : Nat → Value → World → Prop} {w w' : World} (hs : ∀ k u, Sp k u w → Sp k u w') (k : Nat) (u : Value) (h : tauL vs Sp k u w) : tauL vs Sp k u w' := by
  unfold tauL at *
  split at h <;> first | exact h | exact hs _ _ h
theorem tauL_any {vs : List (Option Value)} {w w' : World} (k : Nat) (u : Value) (h : tauL vs tauN k u w) : tauL vs tauN k u w' := tauL_mono (fun _ _ _ => trivial) k u h
end Go.Proofs.YtdbpfemkjfogoaaGreatDoor
namespace Go.Proofs.YtdbpfemkjfogoaaGreatDoor
open Go.RowKit
set_option linter.unusedVariables false
/-- The worlds that have grown out of w. -/
def Ext (w : World) : Type := { w' : World // Below w.heap.size w w' }
def Ext.w {w : World} (x : Ext w) : World := x.1
theorem Ext.below {w : World} (x : Ext w) : Below w.heap.size w x.w := x.2
instance (w : World) : Nonempty (Ext w) := ⟨⟨w, Below.refl _ _⟩⟩
theorem Ext.cell {w : World} (x : Ext w) (b o : Nat) (h : b < w.heap.size) : x.w.cell? ⟨b, o, none⟩ = w.cell? ⟨b, o, none⟩ := x.below.cell (p := ⟨b, o, none⟩) h
theorem Ext.frozen {w : World} (x : Ext w) (b o : Nat) (h : b < w.heap.size) : x.w.frozen? ⟨b, o, none⟩ = w.frozen? ⟨b, o, none⟩ := x.below.frozen (p := ⟨b, o, none⟩) h
theorem wp_region_ext {P : Program} {id : Nat} {Q : Exit → Act → World → Prop} {a : Act} {w : World} {l : List Oper} (hm : P.follows .mixedOrders = true) (hB : Region.lexB .any l.toArray = true)
    (h : wpQuiet P l.toArray (fun w' => ∃ x : Ext w, w' = x.w) (fun a' => ∀ w', (∃ x : Ext w, w' = x.w) → Q .normal a' w') l a) : (Code.region id l.toArray true).wp P Q a w :=
  wp_region_quiet (C := fun w' => ∃ x : Ext w, w' = x.w) hm hB ⟨⟨w.drew, (Below.refl _ _).drew⟩, rfl⟩ (by simpa using h)
/-- A callee's contract, met in a grown world. -/
theorem Calls.ext {P : Program} {f : FuncId} {args : Array Value} {w : World} {x : Ext w} {v : Value}
    (h : Calls P f args x.w fun e w' => e = .returned v ∧ Below x.w.heap.size x.w w') : Calls P f args x.w fun e w'' => e = .returned v ∧ ∃ y : Ext w, w'' = y.w :=
  h.mono fun _ w' ⟨he, hb⟩ => ⟨he, ⟨w', x.below.trans (hb.mono x.below.size)⟩, rfl⟩
/-- .. of a callee that leaves the world alone. -/
theorem Calls.ext_same {P : Program} {f : FuncId} {args : Array Value} {w : World} {x : Ext w} {v : Value}
    (h : Calls P f args x.w fun e w' => e = .returned v ∧ x.w = w') : Calls P f args x.w fun e w'' => e = .returned v ∧ ∃ y : Ext w, w'' = y.w :=
  h.mono fun _ w' ⟨he, hb⟩ => ⟨he, x, hb.symm⟩
end Go.Proofs.YtdbpfemkjfogoaaGreatDoor
namespace Go.Proofs.YtdbpfemkjfogoaaGreatDoor
open Go.RowKit
set_option linter.unusedVariables false
set_option linter.unusedSimpArgs false
section
variable {P : Program} {Q : Exit → Act → World → Prop}
/-- Marks: some false: early; some true: early, and looks at no world; none: one of the tail. -/
def earlyL : List Oper → List (Option Bool) → List (Oper × Bool)
  | o :: l, some false :: m => (o, false) :: earlyL l m
  | o :: l, some true :: m => (o, true) :: earlyL l m
  | _ :: l, none :: m => earlyL l m
  | [], _ => []
  | _ :: _, [] => []
def tailL : List Oper → List (Option Bool) → List Oper
  | o :: l, none :: m => o :: tailL l m
  | _ :: l, some _ :: m => tailL l m
  | [], _ => []
  | _ :: _, [] => []
def tailIx : Nat → List (Option Bool) → List Nat
  | _, [] => []
  | k, none :: m => k :: tailIx (k + 1) m
  | k, some _ :: m => tailIx (k + 1) m
def wpMix (P : Program) (ops : Array Oper) (C : World → Prop) (Qe : Act → Prop) : List (Oper × Bool) → Act → Prop
  | [], a => Qe a
  | (o, false) :: rest, a => wpQuiet P ops C (wpMix P ops C Qe rest) [o] a
  | (o, true) :: rest, a => wpQuiet P ops (fun _ => True) (wpMix P ops C Qe rest) [o] a
def wpTail (P : Program) (ops : Array Oper) (C : World → Prop) (Qe : Act → World → Prop) : Nat → List Oper → Act → World → Prop
  | _, [], a, w => Qe a w
  | b, o :: rest, a, w => ∀ Q' : Exit → Act → World → Prop, (∀ a' w', a'.defers = a.defers → (0 < b → C w') → wpTail P ops C Qe (b - 1) rest a' w' → Q' .normal a' w') → wpList P ops Q' [o] a w
theorem wpMix_nil {ops : Array Oper} {C : World → Prop} {Qe : Act → Prop} {a : Act} (h : Qe a) : wpMix P ops C Qe [] a := h
theorem wpMix_e {ops : Array Oper} {C : World → Prop} {Qe : Act → Prop} {a : Act} {o : Oper} {rest : List (Oper × Bool)} (h : wpQuiet P ops C (wpMix P ops C Qe rest) [o] a) : wpMix P ops C Qe ((o, false) :: rest) a := h
theorem wpMix_p {ops : Array Oper} {C : World → Prop} {Qe : Act → Prop} {a : Act} {o : Oper} {rest : List (Oper × Bool)} (h : wpQuiet P ops (fun _ => True) (wpMix P ops C Qe rest) [o] a) : wpMix P ops C Qe ((o, true) :: rest) a := h
theorem wpTail_nil {ops : Array Oper} {C : World → Prop} {Qe : Act → World → Prop} {b : Nat} {a : Act} {w : World} (h : Qe a w) : wpTail P ops C Qe b [] a w := by
  cases b <;> exact h
theorem wpTail_step {ops : Array Oper} {C : World → Prop} {Qe : Act → World → Prop} {b : Nat} {a : Act} {w : World} {o : Oper} {rest : List Oper}
    (h : ∀ Q' : Exit → Act → World → Prop, (∀ a' w', a'.defers = a.defers → (0 < b → C w') → wpTail P ops C Qe (b - 1) rest a' w' → Q' .normal a' w') → wpList P ops Q' [o] a w) : wpTail P ops C Qe b (o :: rest) a w := by
  cases b <;> exact h
def isT (mask : List (Option Bool)) (i : Nat) : Bool := match mask[i]? with
  | some none => true
  | _ => false
def isP (mask : List (Option Bool)) (i : Nat) : Bool := match mask[i]? with
  | some (some true) => true
  | _ => false
def isCall (o : Oper) : Bool := match o.op with
  | .move _ | .assign _ | .nilCheck _ | .load .. | .binOp .. | .unOp .. | .convert .. | .makeInterface .. | .slice .. | .fieldAddr .. | .field .. | .indexAddr .. | .index .. | .extract .. | .lookup .. | .pick .. | .buildSlice .. | .build .. => false
  | _ => true
def allIx (n : Nat) (f : Nat → Bool) : Bool := (List.range n).all f
theorem allIx_at {n : Nat} {f : Nat → Bool} (h : allIx n f = true) (i : Nat) (hi : i < n) : f i = true := List.all_eq_true.1 h i (List.mem_range.2 hi)
def onB (o : Oper) (j : Nat) : Bool := o.after.toList.any fun e => Region.binds .any e && e.on == j
def looksB (l : List Oper) : Bool := allIx l.length fun i => allIx l.length fun j => match l[i]?, l[j]? with
  | some o, some q => match q.dst with
    | some t => !((o.looksAt l.toArray).contains t) || onB o j || laterB l i l.length j
    | none => true
  | _, _ => true
def earlyB (l : List Oper) (mask : List (Option Bool)) : Bool := allIx l.length fun i => allIx l.length fun j => !(isT mask i) || isT mask j || !(laterB l i l.length j)
def pairB (l : List Oper) : List Nat → Bool
  | [] => true
  | i :: r => (r.all fun j => laterB l i l.length j) && pairB l r
def impB (l : List Oper) (mask : List (Option Bool)) (b : Nat) : Bool := allIx l.length fun i => isT mask i || isP mask i || match (tailIx 0 mask)[b]? with
  | some t => laterB l i l.length t
  | none => true
def callB (l : List Oper) (mask : List (Option Bool)) : Bool := allIx l.length fun i => isT mask i || match l[i]? with
  | some o => !(isCall o) || (!(isP mask i) && match (tailIx 0 mask)[0]? with
    | some t => laterB l i l.length t
    | none => true)
  | none => true
def lineB (l : List Oper) (mask : List (Option Bool)) (b : Nat) : Bool :=
  decide (l.length = mask.length) && backB l && apartB l && Region.noSelect l.toArray && looksB l && earlyB l mask && pairB l (tailIx 0 mask) && impB l mask b && callB l mask
theorem tailIx_mem : ∀ (m : List (Option Bool)) (k i : Nat), i ∈ tailIx k m ↔ k ≤ i ∧ m[i - k]? = some none
  | [], k, i => by simp [tailIx]
  | none :: m, k, i => by
    unfold tailIx
    rw [List.mem_cons, tailIx_mem m (k + 1) i]
    constructor
    · rintro (rfl | ⟨h1, h2⟩)
      · simp
      · refine ⟨by omega, ?_⟩
        rw [show i - k = (i - (k + 1)) + 1 from by omega]
        simpa using h2
    · rintro ⟨h1, h2⟩
      by_cases e : i = k
      · exact .inl e
      · right
        refine ⟨by omega, ?_⟩
        rw [show i - k = (i - (k + 1)) + 1 from by omega] at h2
        simpa using h2
  | some p :: m, k, i => by
    unfold tailIx
    rw [tailIx_mem m (k + 1) i]
    constructor
    · rintro ⟨h1, h2⟩
      refine ⟨by omega, ?_⟩
      rw [show i - k = (i - (k + 1)) + 1 from by omega]
      simpa using h2
    · rintro ⟨h1, h2⟩
      have : i ≠ k := by
        rintro rfl
        simp at h2
      refine ⟨by omega, ?_⟩
      rw [show i - k = (i - (k + 1)) + 1 from by omega] at h2
      simpa using h2
theorem isT_iff {mask : List (Option Bool)} {i : Nat} : isT mask i = true ↔ i ∈ tailIx 0 mask := by
  rw [tailIx_mem]
  unfold isT
  constructor
  · intro h
    refine ⟨Nat.zero_le _, ?_⟩
    split at h
    · rename_i h2; simpa using h2
    · cases h
  · rintro ⟨_, h⟩
    rw [Nat.sub_zero] at h
    rw [h]
theorem tailL_ix (l : List Oper) : ∀ (ll : List Oper) (mm : List (Option Bool)) (k : Nat), ll.length = mm.length → (∀ j, ll[j]? = l[k + j]?) → tailL ll mm = (tailIx k mm).filterMap (fun i => l[i]?)
  | [], [], _, _, _ => rfl
  | [], _ :: _, _, h, _ => by simp at h
  | _ :: _, [], _, h, _ => by simp at h
  | o :: ll, none :: mm, k, h, hl => by
    have h0 : l[k]? = some o := by simpa using (hl 0).symm
    unfold tailL tailIx
    rw [List.filterMap_cons, h0, tailL_ix l ll mm (k + 1) (by simpa using h) (fun j => by have := hl (j + 1); rw [show k + 1 + j = k + (j + 1) from by omega]; simpa using this)]
  | o :: ll, some p :: mm, k, h, hl => by
    unfold tailL tailIx
    exact tailL_ix l ll mm (k + 1) (by simpa using h) (fun j => by have := hl (j + 1); rw [show k + 1 + j = k + (j + 1) from by omega]; simpa using this)
theorem putAll_congr_lt : ∀ (l : List Oper) (k : Nat) (us us' : Nat → Value) (a : Act), (∀ j, k ≤ j → j < k + l.length → us j = us' j) → putAll k l us a = putAll k l us' a
  | [], _, _, _, _, _ => rfl
  | o :: l, k, us, us', a, h => by
    unfold putAll
    rw [h k (Nat.le_refl _) (by simp)]
    exact putAll_congr_lt l (k + 1) us us' _ (fun j hj hj' => h j (by omega) (by simp at hj' ⊢; omega))
theorem putAll_tmp (t : Tmp) : ∀ (l : List Oper) (k : Nat) (us us' : Nat → Value) (a a' : Act), (∀ j o, l[j]? = some o → o.dst = some t → us (k + j) = us' (k + j)) → a.tmps[t]? = a'.tmps[t]? → (putAll k l us a).tmps[t]? = (putAll k l us' a').tmps[t]?
  | [], _, _, _, _, _, _, h => h
  | o :: l, k, us, us', a, a', hj, h => by
    unfold putAll
    refine putAll_tmp t l (k + 1) us us' _ _ (fun j q hq hd => ?_) ?_
    · have := hj (j + 1) q (by simpa using hq) hd
      rwa [show k + 1 + j = k + (j + 1) from by omega]
    · cases hd : o.dst with
      | none => exact h
      | some x =>
        simp only [Act.put]
        by_cases hx : x = t
        · subst hx
          have := hj 0 o (by simp) hd
          rw [Nat.add_zero] at this
          rw [this]
          rcases Nat.lt_or_ge x a.tmps.size with h1 | h1
          · rcases Nat.lt_or_ge x a'.tmps.size with h2 | h2
            · rw [Array.getElem?_setIfInBounds_self_of_lt h1, Array.getElem?_setIfInBounds_self_of_lt h2]
            · rw [Array.getElem?_eq_none h2, Array.getElem?_eq_getElem h1] at h; cases h
          · rcases Nat.lt_or_ge x a'.tmps.size with h2 | h2
            · rw [Array.getElem?_eq_none h1, Array.getElem?_eq_getElem h2] at h; cases h
            · rw [Array.getElem?_eq_none (by simpa using h1), Array.getElem?_eq_none (by simpa using h2)]
        · rw [Array.getElem?_setIfInBounds_ne hx, Array.getElem?_setIfInBounds_ne hx]
          exact h
def selfU (l : List Oper) (a : Act) : Nat → Value := fun k => match (l[k]?).bind (·.dst) with
  | some t => a.tmps.getD t undef
  | none => undef
theorem set_self (a : Array Value) (t : Nat) : a.setIfInBounds t (a.getD t undef) = a := by
  apply Array.ext
  · simp
  · intro i h1 h2
    by_cases hi : t = i
    · subst hi
      simp [Array.getD, h2]
    · rw [Array.getElem_setIfInBounds_ne _ hi]
theorem putAll_self : ∀ (l : List Oper) (k : Nat) (us : Nat → Value) (a : Act), (∀ j o t, l[j]? = some o → o.dst = some t → us (k + j) = a.tmps.getD t undef) → putAll k l us a = a
  | [], _, _, _, _ => rfl
  | o :: l, k, us, a, h => by
    unfold putAll
    have h0 : a.put o.dst (us k) = a := by
      cases hd : o.dst with
      | none => rfl
      | some t =>
        have := h 0 o t (by simp) hd
        rw [Nat.add_zero] at this
        rw [this]
        simp only [Act.put, set_self]
    rw [h0]
    exact putAll_self l (k + 1) us a (fun j q t hq hd => by
      have := h (j + 1) q t (by simpa using hq) hd
      rwa [show k + 1 + j = k + (j + 1) from by omega])
theorem putAll_defers : ∀ (l : List Oper) (k : Nat) (us : Nat → Value) (a : Act), (putAll k l us a).defers = a.defers
  | [], _, _, _ => rfl
  | o :: l, k, us, a => by
    unfold putAll
    rw [putAll_defers l (k + 1) us]
    cases o.dst <;> rfl
/-- An operation sees of the frame what it looks at. -/
theorem exec_agree {l : List Oper} {a0 : Act} {o : Oper} {us us' : Nat → Value} (hs : ∀ cs b, o.op ≠ .select cs b)
    (h : ∀ j q t, l[j]? = some q → q.dst = some t → t ∈ o.looksAt l.toArray → us j = us' j) :
    execOp (putAll 0 l us a0).eval o = execOp (putAll 0 l us' a0).eval o ∧ Region.wanted o (yielded l.toArray (putAll 0 l us a0).tmps) = Region.wanted o (yielded l.toArray (putAll 0 l us' a0).tmps) := by
  have tm : ∀ t, t ∈ o.looksAt l.toArray → (putAll 0 l us a0).tmps[t]? = (putAll 0 l us' a0).tmps[t]? := fun t ht =>
    putAll_tmp t l 0 us us' a0 a0 (fun j q hq hd => by rw [Nat.zero_add]; exact h j q t hq hd ht) rfl
  refine ⟨execOp_congr o hs fun x hx => ?_, ?_⟩
  · cases x with
    | tmp t =>
      have := tm t (List.mem_append_left _ (List.mem_filterMap.2 ⟨.tmp t, by simpa using hx, rfl⟩))
      simp only [Act.eval, Array.getD_eq_getD_getElem?, this]
    | _ => rfl
  · unfold Region.wanted
    cases hg : o.guard with
    | none => rfl
    | some gw =>
      obtain ⟨g, want⟩ := gw
      have hy : yielded l.toArray (putAll 0 l us a0).tmps g = yielded l.toArray (putAll 0 l us' a0).tmps g := by
        unfold yielded
        cases ht : (l.toArray[g]?).bind (·.dst) with
        | none => rfl
        | some t =>
          have := tm t (by
            unfold Oper.looksAt
            rw [hg]
            exact List.mem_append_right _ (by simp only [ht]; simp))
          simp only [Option.bind_some, this]
      simp only [hy]
theorem AllOps.intro {H : Nat → Oper → Prop} : ∀ (l : List Oper) (k : Nat), (∀ j o, l[j]? = some o → H (k + j) o) → AllOps H k l
  | [], _, _ => trivial
  | o :: l, k, h => ⟨by simpa using h 0 o (by simp), AllOps.intro l (k + 1) (fun j q hq => by
      have := h (j + 1) q (by simpa using hq)
      rwa [show k + 1 + j = k + (j + 1) from by omega])⟩
theorem quiet_one {ops : Array Oper} {C : World → Prop} {K : Act → Prop} {o : Oper} {a : Act} (h : wpQuiet P ops C K [o] a) : ∃ v, YieldsIn P ops C o v a ∧ K (a.put o.dst v) := by
  unfold wpQuiet at h
  by_cases hw : Region.wanted o (yielded ops a.tmps) = true
  · rw [if_pos hw] at h
    obtain ⟨v, h1, h2⟩ := h
    exact ⟨v, .inl ⟨hw, h1⟩, h2⟩
  · rw [if_neg hw] at h
    exact ⟨undef, .inr ⟨by simpa using hw, rfl⟩, h⟩
def clsOf (C : World → Prop) (p : Bool) : World → Prop := if p then fun _ => True else C
theorem walk_spec {C : World → Prop} {Qe : Act → Prop} {l : List Oper} {a0 : Act} (hap : apartB l = true) : ∀ (ll : List Oper) (mm : List (Option Bool)) (k : Nat) (us : Nat → Value), ll.length = mm.length → (∀ j o, ll[j]? = some o → l[k + j]? = some o) →
    wpMix P l.toArray C Qe (earlyL ll mm) (putAll 0 l us a0) →
    ∃ val : Nat → Value, (∀ j, j < k → val j = us j) ∧ (∀ j, mm[j]? = some none → val (k + j) = us (k + j)) ∧
      (∀ j o p, ll[j]? = some o → mm[j]? = some (some p) → YieldsIn P l.toArray (clsOf C p) o (val (k + j)) (putAll 0 l (fun i => if i < k + j then val i else us i) a0)) ∧ Qe (putAll 0 l val a0)
  | [], [], k, us, _, _, h => ⟨us, fun _ _ => rfl, fun _ _ => rfl, fun j o p hj => by simp at hj, h⟩
  | [], _ :: _, _, _, hl, _, _ => by simp at hl
  | _ :: _, [], _, _, hl, _, _ => by simp at hl
  | o :: ll, none :: mm, k, us, hl, hat, h => by
    obtain ⟨val, h1, h2, h3, h4⟩ := walk_spec hap ll mm (k + 1) us (by simpa using hl) (fun j q hq => by
      have := hat (j + 1) q (by simpa using hq)
      rwa [show k + 1 + j = k + (j + 1) from by omega]) (by simpa [earlyL] using h)
    refine ⟨val, fun j hj => h1 j (by omega), fun j hj => ?_, fun j q p hq hp => ?_, h4⟩
    · cases j with
      | zero => exact h1 k (by omega)
      | succ j => have := h2 j (by simpa using hj); rwa [show k + (j + 1) = k + 1 + j from by omega]
    · cases j with
      | zero => simp at hp
      | succ j =>
        have := h3 j q p (by simpa using hq) (by simpa using hp)
        rwa [show k + (j + 1) = k + 1 + j from by omega]
  | o :: ll, some p :: mm, k, us, hl, hat, h => by
    have h0 : l[k]? = some o := by simpa using hat 0 o (by simp)
    have h' : wpQuiet P l.toArray (clsOf C p) (wpMix P l.toArray C Qe (earlyL ll mm)) [o] (putAll 0 l us a0) := by
      cases p <;> simpa [earlyL, wpMix, clsOf] using h
    obtain ⟨v, hy, hk⟩ := quiet_one h'
    have hput := putAll_put l 0 us a0 k o v hap h0
    rw [Nat.zero_add] at hput
    rw [hput] at hk
    obtain ⟨val, h1, h2, h3, h4⟩ := walk_spec hap ll mm (k + 1) (updU us k v) (by simpa using hl) (fun j q hq => by
      have := hat (j + 1) q (by simpa using hq)
      rwa [show k + 1 + j = k + (j + 1) from by omega]) hk
    have hk0 : val k = v := by rw [h1 k (by omega)]; simp [updU]
    have hne : ∀ j, j ≠ k → updU us k v j = us j := fun j hj => by unfold updU; rw [if_neg hj]
    refine ⟨val, fun j hj => by rw [h1 j (by omega), hne j (by omega)], fun j hj => ?_, fun j q p' hq hp => ?_, h4⟩
    · cases j with
      | zero => simp at hj
      | succ j =>
        have := h2 j (by simpa using hj)
        rw [show k + (j + 1) = k + 1 + j from by omega, this, hne _ (by omega)]
    · cases j with
      | zero =>
        simp at hq hp
        subst hq hp
        rw [Nat.add_zero, hk0]
        have e : putAll 0 l (fun i => if i < k then val i else us i) a0 = putAll 0 l us a0 := by
          refine putAll_congr l 0 _ _ _ (fun j _ => ?_)
          by_cases hj : j < k
          · rw [if_pos hj, h1 j (by omega), hne j (by omega)]
          · rw [if_neg hj]
        rw [e]
        exact hy
      | succ j =>
        have := h3 j q p' (by simpa using hq) (by simpa using hp)
        rw [show k + (j + 1) = k + 1 + j from by omega]
        have e : putAll 0 l (fun i => if i < k + 1 + j then val i else us i) a0 = putAll 0 l (fun i => if i < k + 1 + j then val i else updU us k v i) a0 := by
          refine putAll_congr l 0 _ _ _ (fun i _ => ?_)
          by_cases hj : i < k + 1 + j
          · rw [if_pos hj, if_pos hj]
          · rw [if_neg hj, if_neg hj, hne i (by omega)]
        rw [e]
        exact this
theorem laterB_gt {l : List Oper} (hb : backB l = true) {i : Nat} : ∀ f k, laterB l i f k = true → i < k
  | 0, _, h => by simp [laterB] at h
  | f + 1, k, h => by
    unfold laterB at h
    cases ho : l[k]? with
    | none => rw [ho] at h; simp at h
    | some o =>
      rw [ho] at h
      simp only [List.any_eq_true, Bool.and_eq_true, Bool.or_eq_true, beq_iff_eq] at h
      obtain ⟨e, he, hbd, h1⟩ := h
      unfold backB at hb
      rw [List.all_eq_true] at hb
      have hlt : k < l.length := (List.getElem?_eq_some_iff.1 ho).1
      have h2 := hb (o, k) (by rw [List.mem_zipIdx_iff_getElem?]; simpa using ho)
      simp only [Array.all_eq_true_iff_forall_mem] at h2
      have h3 := h2 e (by simpa using he)
      simp [hbd] at h3
      rcases h1 with h1 | h1
      · omega
      · have := laterB_gt (l := l) (by unfold backB; rw [List.all_eq_true]; exact hb) f e.on h1
        omega
theorem shut_set {l : List Oper} {d : Nat → Bool} {i : Nat} {o : Oper} (hl : l[i]? = some o) (hs : Shut l d) (hp : ∀ k, (∃ e, e ∈ o.after ∧ Region.binds .any e = true ∧ e.on = k) → d k = true) : Shut l (setD d i) := by
  intro k o' ho' hk e he hbd
  unfold setD at hk ⊢
  by_cases hon : e.on = i
  · rw [if_pos hon]
  · rw [if_neg hon]
    by_cases hki : k = i
    · subst hki
      rw [hl] at ho'
      injection ho' with ho'
      subst ho'
      exact hp _ ⟨e, he, hbd, rfl⟩
    · rw [if_neg hki] at hk
      exact hs k o' ho' hk e he hbd
theorem pairB_spec {l : List Oper} : ∀ {dn : List Nat} {i j : Nat} {r : List Nat}, pairB l (dn ++ i :: r) = true → j ∈ r → laterB l i l.length j = true
  | [], i, j, r, h, hj => by
    simp only [List.nil_append, pairB, Bool.and_eq_true, List.all_eq_true] at h
    exact h.1 j hj
  | _ :: dn, i, j, r, h, hj => by
    simp only [List.cons_append, pairB, Bool.and_eq_true] at h
    exact pairB_spec h.2 hj
def fullU (mask : List (Option Bool)) (val us : Nat → Value) : Nat → Value := fun k => if isT mask k = true then us k else val k
theorem val_enter {s : Sem Value} {w w' : World} {f : FuncId} {args : Array Value} (h : ((do pure (.value (← s))) : Sem Next).run P w = .ok (.enter f args) w') : False := by
  rw [Sem.run_bind] at h
  cases hs : s.run P w with
  | ok a w1 => rw [hs] at h; simp at h
  | halt x w1 => rw [hs] at h; simp at h
theorem bind_enter {α : Type} {s : Sem α} {g : α → Sem Next} {w w' : World} {f : FuncId} {args : Array Value} (hg : ∀ a w1, (g a).run P w1 = .ok (.enter f args) w' → False) (h : (s >>= g).run P w = .ok (.enter f args) w') : False := by
  rw [Sem.run_bind] at h
  cases hs : s.run P w with
  | ok a w1 => rw [hs] at h; exact hg a w1 h
  | halt x w1 => rw [hs] at h; simp at h
theorem not_enter {ρ : Operand → Value} {o : Oper} {w w' : World} {f : FuncId} {args : Array Value} (hc : isCall o = false) (h : (execOp ρ o).run P w = .ok (.enter f args) w') : False := by
  obtain ⟨dst, op, type, pos, after, guard⟩ := o
  cases op <;> first | (simp [isCall] at hc; done) | skip
  all_goals first
    | exact val_enter h
    | (simp [execOp] at h; done)
    | (unfold execOp at h
       dsimp only at h
       repeat' split at h
       all_goals first | (simp at h; done) | exact val_enter h | (simp [runtimePanic] at h; done) | (simp only [Sem.run_bind] at h; simp at h; split at h <;> simp at h; done) | (refine bind_enter (fun _ _ h1 => bind_enter (fun a w1 h2 => ?_) h1) h; split at h2 <;> simp at h2) | (refine bind_enter (fun _ _ h1 => ?_) h; simp at h1))
def isLen (o : Oper) : Bool := match o.op with
  | .call { callee := .builtin .len, args := _, argTypes := _ } => true
  | _ => false
def isCall2 (o : Oper) : Bool := isCall o && !(isLen o)
def callB2 (l : List Oper) (mask : List (Option Bool)) : Bool := allIx l.length fun i => isT mask i || match l[i]? with
  | some o => !(isCall2 o) || (!(isP mask i) && match (tailIx 0 mask)[0]? with
    | some t => laterB l i l.length t
    | none => true)
  | none => true
def lineB2 (l : List Oper) (mask : List (Option Bool)) (b : Nat) : Bool :=
  decide (l.length = mask.length) && backB l && apartB l && Region.noSelect l.toArray && looksB l && earlyB l mask && pairB l (tailIx 0 mask) && impB l mask b && callB2 l mask
theorem not_enter2 {ρ : Operand → Value} {o : Oper} {w w' : World} {f : FuncId} {args : Array Value} (hc : isCall2 o = false) (h : (execOp ρ o).run P w = .ok (.enter f args) w') : False := by
  by_cases h1 : isCall o = false
  · exact not_enter h1 h
  · have h2 : isLen o = true := by
      unfold isCall2 at hc
      revert hc h1
      cases isCall o <;> cases isLen o <;> simp
    obtain ⟨dst, op, type, pos, after, guard⟩ := o
    unfold isLen at h2
    simp only at h2
    split at h2
    · unfold execOp at h
      simp only [resolve, invoke, builtin] at h
      simp only [Sem.run_bind, Sem.run_pure, Result.andThen_ok] at h
      generalize Sem.run P _ w = r at h
      cases r <;> simp [Result.andThen] at h
    · cases h2
theorem wp_region_line2 {id : Nat} {a0 : Act} {w0 : World} {l : List Oper} (C : World → Prop) (mask : List (Option Bool)) (b : Nat)
    (hm : P.follows .mixedOrders = true) (hB : lineB2 l mask b = true) (hC : C w0.drew)
    (h : wpMix P l.toArray C (fun a => ∀ w, C w → wpTail P l.toArray C (Q .normal) b (tailL l mask) a w) (earlyL l mask) a0) : (Code.region id l.toArray true).wp P Q a0 w0 := by
  unfold lineB2 at hB
  simp only [Bool.and_eq_true, decide_eq_true_eq] at hB
  obtain ⟨⟨⟨⟨⟨⟨⟨⟨hlen, hback⟩, hap⟩, hsel⟩, hlooks⟩, hearly⟩, hpair⟩, himp⟩, hcall⟩ := hB
  have hself : putAll 0 l (selfU l a0) a0 = a0 := putAll_self l 0 _ _ (fun j o t hj hd => by simp [selfU, hj, hd])
  obtain ⟨val, _, hvT, hvY, hend⟩ := walk_spec hap l mask 0 (selfU l a0) hlen (fun j o hj => by simpa using hj) (by rw [hself]; exact h)
  have htail := tailL_ix l l mask 0 hlen (fun j => by simp)
  rw [htail] at hend
  clear htail h
  have hvT' : ∀ i, isT mask i = true → val i = selfU l a0 i := fun i hi => by
    have := (tailIx_mem mask 0 i).1 (isT_iff.1 hi)
    have := hvT i (by simpa using this.2)
    simpa using this
  have selO : ∀ (i : Nat) (o : Oper), l[i]? = some o → ∀ cs b, o.op ≠ .select cs b := fun i o hi cs b => Region.noSelect_spec hsel i o cs b (by simpa using hi)
  have lt_of : ∀ {i : Nat} {o : Oper}, l[i]? = some o → i < l.length := fun hi => (List.getElem?_eq_some_iff.1 hi).1
  have direct : ∀ {i j : Nat} {o : Oper}, l[i]? = some o → onB o j = true → laterB l j l.length i = true := by
    intro i j o hi hon
    have := lt_of hi
    obtain ⟨n, hn⟩ : ∃ n, l.length = n + 1 := ⟨l.length - 1, by omega⟩
    rw [hn]
    unfold laterB
    rw [hi]
    unfold onB at hon
    simp only [List.any_eq_true, Bool.and_eq_true, beq_iff_eq, Bool.or_eq_true] at hon ⊢
    obtain ⟨e, he, hb, h2⟩ := hon
    exact ⟨e, he, hb, .inl h2⟩
  have notlater : ∀ {i j : Nat}, i < l.length → j < l.length → isT mask i = true → isT mask j = false → laterB l i l.length j = false := by
    intro i j hi hj h1 h2
    have := allIx_at (allIx_at hearly i hi) j hj
    simpa [h1, h2] using this
  have looks : ∀ {i j : Nat} {o q : Oper} {t : Tmp}, l[i]? = some o → l[j]? = some q → q.dst = some t → t ∈ o.looksAt l.toArray → onB o j = true ∨ laterB l i l.length j = true := by
    intro i j o q t hi hj hd ht
    have := allIx_at (allIx_at hlooks i (lt_of hi)) j (lt_of hj)
    simp only [hi, hj, hd] at this
    simpa [ht] using this
  refine wp_region_inv (fun d us w => Shut l d ∧ (∀ k, isT mask k = false → d k = true → us k = val k) ∧ (∀ k, d k = false → us k = selfU l a0 k) ∧
      ∃ dn rest, tailIx 0 mask = dn ++ rest ∧ (∀ i ∈ dn, d i = true) ∧ (∀ i ∈ rest, d i = false) ∧ (dn.length ≤ b → C w) ∧
        (dn = [] ∨ wpTail P l.toArray C (Q .normal) (b - dn.length) (rest.filterMap (fun i => l[i]?)) (putAll 0 l (fullU mask val us) a0) w))
    (selfU l a0) hm hback hap hself ⟨(fun _ _ _ h => (by cases h)), (fun _ _ h => (by cases h)), fun _ _ => rfl, [], _, rfl, by simp, fun _ _ => rfl, fun _ => hC, .inl rfl⟩ ?_ ?_
  · refine AllOps.intro l 0 (fun i o hi => ?_)
    rw [Nat.zero_add]
    rintro d us w ⟨hs, hv, hu, dn, rest, hsp, hdn, hrest, hCw, htl⟩ hd hp us' rfl
    have hi' := lt_of hi
    have hs' : Shut l (setD d i) := shut_set hi hs hp
    have onp : ∀ {j : Nat}, onB o j = true → d j = true := by
      intro j hon
      unfold onB at hon
      simp only [List.any_eq_true, Bool.and_eq_true, beq_iff_eq] at hon
      obtain ⟨e, he, hb, h2⟩ := hon
      exact hp j ⟨e, by simpa using he, hb, h2⟩
    have later0 : ∀ {j : Nat}, laterB l i l.length j = true → d j = false := fun hj => laterB_not hs hd _ _ hj
    have ahead1 : ∀ {j : Nat}, laterB l j l.length i = true → d j = true := by
      intro j hj
      rcases Bool.eq_false_or_eq_true (d j) with h1 | h1
      · exact h1
      · by_cases e : j = i
        · subst e
          have := laterB_gt hback _ _ hj
          omega
        · have h2 : setD d i j = false := by unfold setD; rw [if_neg e]; exact h1
          have h3 := laterB_not hs' h2 _ _ hj
          unfold setD at h3
          rw [if_pos rfl] at h3
          cases h3
    rcases Bool.eq_false_or_eq_true (isT mask i) with hT | hT
    · -- one of the tail
      have him : i ∈ tailIx 0 mask := isT_iff.1 hT
      rw [hsp] at him
      have hir : i ∈ rest := by
        rcases List.mem_append.1 him with h1 | h1
        · rw [hdn i h1] at hd; cases hd
        · exact h1
      obtain ⟨rest', rfl⟩ : ∃ rest', rest = i :: rest' := by
        cases rest with
        | nil => cases hir
        | cons r rest' =>
          by_cases e : r = i
          · exact ⟨rest', by rw [e]⟩
          · exfalso
            have hir' : i ∈ rest' := by
              rcases List.mem_cons.1 hir with h1 | h1
              · exact absurd h1.symm e
              · exact h1
            have := ahead1 (pairB_spec (dn := dn) (hsp ▸ hpair) hir')
            rw [hrest r (by simp)] at this
            cases this
      have hag := exec_agree (l := l) (a0 := a0) (us := us') (us' := fullU mask val us') (selO i o hi) (fun j q t hj hdst ht => by
        unfold fullU
        rcases Bool.eq_false_or_eq_true (isT mask j) with hTj | hTj
        · rw [if_pos hTj]
        · rw [if_neg (by rw [hTj]; decide)]
          rcases looks hi hj hdst ht with h1 | h1
          · exact hv j hTj (onp h1)
          · rw [notlater hi' (lt_of hj) hT hTj] at h1; cases h1)
      have htw : wpTail P l.toArray C (Q .normal) (b - dn.length) (o :: rest'.filterMap (fun i => l[i]?)) (putAll 0 l (fullU mask val us') a0) w := by
        rcases htl with rfl | h1
        · have hfull : putAll 0 l (fullU mask val us') a0 = putAll 0 l val a0 := putAll_congr l 0 _ _ _ (fun j _ => by
            unfold fullU
            rcases Bool.eq_false_or_eq_true (isT mask j) with hTj | hTj
            · rw [if_pos hTj, hvT' j hTj]
              have : j ∈ i :: rest' := by have := isT_iff.1 hTj; rw [hsp] at this; simpa using this
              exact hu j (hrest j this)
            · rw [if_neg (by rw [hTj]; decide)])
          rw [hfull]
          have := hend w (hCw (Nat.zero_le _))
          rw [hsp, List.nil_append, List.filterMap_cons, hi] at this
          simpa using this
        · rw [List.filterMap_cons, hi] at h1
          exact h1
      have hfr : ∀ v, (putAll 0 l (fullU mask val us') a0).put o.dst v = putAll 0 l (fullU mask val (updU us' i v)) a0 := fun v => by
        have := putAll_put l 0 (fullU mask val us') a0 i o v hap hi
        rw [Nat.zero_add] at this
        rw [this]
        refine putAll_congr l 0 _ _ _ (fun j _ => ?_)
        unfold updU fullU
        by_cases e : j = i
        · subst e
          simp only [if_true, hT]
        · simp only [if_neg e]
      have next : ∀ v w', (0 < b - dn.length → C w') → wpTail P l.toArray C (Q .normal) (b - dn.length - 1) (rest'.filterMap (fun i => l[i]?)) ((putAll 0 l (fullU mask val us') a0).put o.dst v) w' →
          Shut l (setD d i) ∧ (∀ k, isT mask k = false → setD d i k = true → updU us' i v k = val k) ∧ (∀ k, setD d i k = false → updU us' i v k = selfU l a0 k) ∧
          ∃ dn rest, tailIx 0 mask = dn ++ rest ∧ (∀ i_1 ∈ dn, setD d i i_1 = true) ∧ (∀ i_1 ∈ rest, setD d i i_1 = false) ∧ (dn.length ≤ b → C w') ∧
            (dn = [] ∨ wpTail P l.toArray C (Q .normal) (b - dn.length) (rest.filterMap (fun i => l[i]?)) (putAll 0 l (fullU mask val (updU us' i v)) a0) w') := by
        intro v w' hc htw'
        refine ⟨hs', fun k hk hdk => ?_, fun k hk => ?_, dn ++ [i], rest', by rw [hsp]; simp, fun k hk => ?_, fun k hk => ?_, fun hb' => ?_, .inr ?_⟩
        · have hki : k ≠ i := by rintro rfl; rw [hT] at hk; cases hk
          unfold setD at hdk
          unfold updU
          rw [if_neg hki] at hdk ⊢
          exact hv k hk hdk
        · unfold setD at hk
          unfold updU
          by_cases e : k = i
          · rw [if_pos e] at hk; cases hk
          · rw [if_neg e] at hk ⊢
            exact hu k hk
        · unfold setD
          by_cases e : k = i
          · rw [if_pos e]
          · rw [if_neg e]
            rcases List.mem_append.1 hk with h1 | h1
            · exact hdn k h1
            · simp at h1; exact absurd h1 e
        · have hki : k ≠ i := by
            rintro rfl
            have := laterB_gt hback _ _ (pairB_spec (dn := dn) (hsp ▸ hpair) hk)
            omega
          unfold setD
          rw [if_neg hki]
          exact hrest k (List.mem_cons_of_mem _ hk)
        · simp at hb'
          exact hc (by omega)
        · rw [← hfr v, List.length_append, List.length_singleton, Nat.sub_add_eq]
          exact htw'
      have hone := htw (fun ex a' w' => ex = .normal ∧ a'.defers = (putAll 0 l (fullU mask val us') a0).defers ∧ (0 < b - dn.length → C w') ∧ wpTail P l.toArray C (Q .normal) (b - dn.length - 1) (rest'.filterMap (fun i => l[i]?)) a' w')
        (fun a' w' h1 h2 h3 => ⟨rfl, h1, h2, h3⟩)
      unfold wpList at hone
      rw [hag.2]
      by_cases hw : Region.wanted o (yielded l.toArray (putAll 0 l (fullU mask val us') a0).tmps) = true
      · rw [if_pos hw] at hone
        refine .inl ⟨hw, fun K Q2 hK => ?_⟩
        rcases hone with hone | ⟨_, a1, w1, h1, _⟩
        · unfold Oper.wp at hone ⊢
          rw [hag.1]
          generalize (execOp (putAll 0 l (fullU mask val us') a0).eval o).run P w = r at *
          cases r with
          | ok n w1 =>
            cases n <;> simp only [Oper.upon] at hone ⊢
            case value v =>
              unfold wpList at hone
              exact hK v w1 (next v w1 hone.2.2.1 hone.2.2.2)
            case skip =>
              unfold wpList at hone
              exact hK undef w1 (next undef w1 hone.2.2.1 hone.2.2.2)
            case defer dd =>
              unfold wpList at hone
              exfalso
              have := hone.2.1
              cases hdst : o.dst <;> simp [Act.put, hdst] at this
            case enter f args =>
              refine hone.mono fun e w2 he => ?_
              cases e with
              | returned v =>
                unfold wpList at he
                exact hK v w2 (next v w2 he.2.2.1 he.2.2.2)
              | panicked c => exact absurd he.1 (by simp)
              | outgrown =>
                obtain ⟨a1, w3, h1, _⟩ := he
                cases h1
            case row rr args =>
              refine Rows.mono hone fun v w2 he => ?_
              unfold wpList at he
              exact hK v w2 (next v w2 he.2.2.1 he.2.2.2)
          | halt x w1 =>
            cases x <;> simp only [Oper.upon] at hone ⊢
            exact absurd hone.1 (by simp)
        · cases h1
      · rw [if_neg hw] at hone
        unfold wpList at hone
        exact .inr ⟨hw, next undef w hone.2.2.1 hone.2.2.2⟩
    · -- an early one
      obtain ⟨p, hmk⟩ : ∃ p, mask[i]? = some (some p) := by
        have : i < mask.length := by omega
        cases hq : mask[i]? with
        | none => rw [List.getElem?_eq_none_iff] at hq; omega
        | some x =>
          cases x with
          | none => unfold isT at hT; rw [hq] at hT; cases hT
          | some p => exact ⟨p, rfl⟩
      have hy := hvY i o p hi hmk
      rw [Nat.zero_add] at hy
      have hag := exec_agree (l := l) (a0 := a0) (us := us') (us' := fun j => if j < i then val j else selfU l a0 j) (selO i o hi) (fun j q t hj hdst ht => by
        rcases looks hi hj hdst ht with h1 | h1
        · have hl1 := direct hi h1
          have hlt := laterB_gt hback _ _ hl1
          rw [if_pos hlt]
          refine hv j ?_ (onp h1)
          rcases Bool.eq_false_or_eq_true (isT mask j) with hTj | hTj
          · rw [notlater (lt_of hj) hi' hTj hT] at hl1; cases hl1
          · exact hTj
        · have hlt := laterB_gt hback _ _ h1
          rw [if_neg (by omega)]
          exact hu j (later0 h1))
      have hy' := hy.of_same hag.1 hag.2
      have next : ∀ w', (dn.length ≤ b → C w') → (w' = w ∨ dn = []) →
          Shut l (setD d i) ∧ (∀ k, isT mask k = false → setD d i k = true → updU us' i (val i) k = val k) ∧ (∀ k, setD d i k = false → updU us' i (val i) k = selfU l a0 k) ∧
          ∃ dn rest, tailIx 0 mask = dn ++ rest ∧ (∀ i_1 ∈ dn, setD d i i_1 = true) ∧ (∀ i_1 ∈ rest, setD d i i_1 = false) ∧ (dn.length ≤ b → C w') ∧
            (dn = [] ∨ wpTail P l.toArray C (Q .normal) (b - dn.length) (rest.filterMap (fun i => l[i]?)) (putAll 0 l (fullU mask val (updU us' i (val i))) a0) w') := by
        intro w' hc hww
        refine ⟨hs', fun k hk hdk => ?_, fun k hk => ?_, dn, rest, hsp, fun k hk => ?_, fun k hk => ?_, hc, ?_⟩
        · unfold updU
          by_cases e : k = i
          · rw [if_pos e, e]
          · rw [if_neg e]
            unfold setD at hdk
            rw [if_neg e] at hdk
            exact hv k hk hdk
        · unfold setD at hk
          unfold updU
          by_cases e : k = i
          · rw [if_pos e] at hk; cases hk
          · rw [if_neg e] at hk ⊢
            exact hu k hk
        · unfold setD
          by_cases e : k = i
          · rw [if_pos e]
          · rw [if_neg e]
            exact hdn k hk
        · have hki : k ≠ i := by
            rintro rfl
            have : isT mask k = true := isT_iff.2 (by rw [hsp]; exact List.mem_append_right _ hk)
            rw [hT] at this
            cases this
          unfold setD
          rw [if_neg hki]
          exact hrest k hk
        · rcases htl with h1 | h1
          · exact .inl h1
          · rcases hww with rfl | h2
            · right
              have e : putAll 0 l (fullU mask val (updU us' i (val i))) a0 = putAll 0 l (fullU mask val us') a0 := putAll_congr l 0 _ _ _ (fun j _ => by
                unfold fullU updU
                split
                · rename_i hTj
                  rw [if_neg (by rintro rfl; rw [hT] at hTj; cases hTj)]
                · rfl)
              rw [e]
              exact h1
            · exact .inl h2
      have hcls : clsOf C p w := by
        unfold clsOf
        cases p with
        | true => trivial
        | false =>
          refine hCw ?_
          rcases Nat.lt_or_ge b dn.length with hlt | hge
          · exfalso
            have h1 := allIx_at himp i hi'
            have hP : isP mask i = false := by unfold isP; rw [hmk]
            have hget : (tailIx 0 mask)[b]? = some (dn[b]) := by rw [hsp, List.getElem?_append_left hlt, List.getElem?_eq_getElem hlt]
            simp only [hT, hP, hget, Bool.false_or] at h1
            have := later0 h1
            rw [hdn _ (List.getElem_mem hlt)] at this
            cases this
          · exact hge
      rcases hy' with ⟨hw, hq⟩ | ⟨hw, hundef⟩
      · refine .inl ⟨hw, fun K Q2 hK => ?_⟩
        have hq1 := hq w hcls
        unfold Oper.quietAt at hq1
        unfold Oper.wp
        generalize hr : (execOp (putAll 0 l us' a0).eval o).run P w = r at *
        cases r with
        | ok n w1 =>
          cases n <;> simp only [Oper.quietUpon] at hq1 <;> simp only [Oper.upon]
          case value u =>
            obtain ⟨rfl, rfl⟩ := hq1
            exact hK _ _ (next _ hCw (.inl rfl))
          case skip =>
            obtain ⟨rfl, e⟩ := hq1
            rw [← e]
            exact hK _ _ (next _ hCw (.inl rfl))
          case enter f args =>
            obtain ⟨rfl, hcl⟩ := hq1
            refine hcl.mono fun e w2 ⟨he, hw2⟩ => ?_
            subst he
            have hic : isCall2 o = true := by
              rcases Bool.eq_false_or_eq_true (isCall2 o) with h1 | h1
              · exact h1
              · exact absurd hr (fun h2 => not_enter2 h1 h2)
            have h1 := allIx_at hcall i hi'
            simp only [hT, hi, hic, Bool.false_or, Bool.not_true, Bool.and_eq_true, Bool.not_eq_true'] at h1
            have hp0 : p = false := by
              have := h1.1
              unfold isP at this
              rw [hmk] at this
              cases p
              · rfl
              · cases this
            subst hp0
            have hdn0 : dn = [] := by
              cases dn with
              | nil => rfl
              | cons t dn' =>
                exfalso
                have h2 := h1.2
                rw [hsp] at h2
                simp only [List.cons_append, List.getElem?_cons_zero] at h2
                have := later0 h2
                rw [hdn t (by simp)] at this
                cases this
            exact hK _ _ (next _ (fun _ => hw2) (.inr hdn0))
        | halt x w1 => simp only [Oper.quietUpon] at hq1
      · refine .inr ⟨by rw [hw]; decide, ?_⟩
        have := next w hCw (.inl rfl)
        rw [hundef] at this
        exact this
  · rintro d us w ⟨hs, hv, hu, dn, rest, hsp, hdn, hrest, hCw, htl⟩ hall
    have hrest0 : rest = [] := by
      cases rest with
      | nil => rfl
      | cons t r =>
        exfalso
        have h1 : t ∈ tailIx 0 mask := by rw [hsp]; simp
        have h2 := (tailIx_mem mask 0 t).1 h1
        have : t < l.length := by
          rw [hlen]
          exact (List.getElem?_eq_some_iff.1 (by simpa using h2.2)).1
        have h3 := hall t this
        rw [hrest t (by simp)] at h3
        cases h3
    subst hrest0
    have hfin : ∀ us2 : Nat → Value, (∀ j, j < l.length → isT mask j = false → us2 j = us j) → (∀ j, isT mask j = true → us2 j = us j) → putAll 0 l us2 a0 = putAll 0 l us a0 := fun us2 h1 h2 => putAll_congr_lt l 0 _ _ _ (fun j _ hj => by
      rcases Bool.eq_false_or_eq_true (isT mask j) with hTj | hTj
      · exact h2 j hTj
      · exact h1 j (by omega) hTj)
    rcases htl with rfl | h1
    · have h1 := hend w (hCw (Nat.zero_le _))
      rw [hsp] at h1
      simp only [List.append_nil, List.filterMap_nil] at h1
      have e := hfin val (fun j hj hTj => (hv j hTj (hall j hj)).symm) (fun j hTj => by
        exfalso
        have := isT_iff.1 hTj
        rw [hsp] at this
        simp at this)
      rw [e] at h1
      cases b <;> exact h1
    · have e := hfin (fullU mask val us) (fun j hj hTj => by unfold fullU; rw [if_neg (by rw [hTj]; decide)]; exact (hv j hTj (hall j hj)).symm) (fun j hTj => by unfold fullU; rw [if_pos hTj])
      rw [e] at h1
      simp only [List.filterMap_nil] at h1
      generalize b - dn.length = bb at h1
      cases bb <;> exact h1
theorem lineB_2 {l : List Oper} {mask : List (Option Bool)} {b : Nat} (h : lineB l mask b = true) : lineB2 l mask b = true := by
  unfold lineB at h
  unfold lineB2
  simp only [Bool.and_eq_true] at h ⊢
  refine ⟨h.1, ?_⟩
  unfold callB2 allIx
  rw [List.all_eq_true]
  intro i hi
  have h1 := allIx_at h.2 i (List.mem_range.1 hi)
  rcases hl : l[i]? with _ | o
  · simp
  · rw [hl] at h1
    simp only [Bool.or_eq_true] at h1 ⊢
    rcases h1 with h1 | h1 | h1
    · exact .inl h1
    · refine .inr (.inl ?_)
      unfold isCall2
      cases hc : isCall o
      · rfl
      · rw [hc] at h1; cases h1
    · exact .inr (.inr h1)
theorem wp_region_line {id : Nat} {a0 : Act} {w0 : World} {l : List Oper} (C : World → Prop) (mask : List (Option Bool)) (b : Nat)
    (hm : P.follows .mixedOrders = true) (hB : lineB l mask b = true) (hC : C w0.drew)
    (h : wpMix P l.toArray C (fun a => ∀ w, C w → wpTail P l.toArray C (Q .normal) b (tailL l mask) a w) (earlyL l mask) a0) : (Code.region id l.toArray true).wp P Q a0 w0 := wp_region_line2 C mask b hm (lineB_2 hB) hC h
/-- What comes behind a region, behind a variable. -/
theorem wp_hide {c : Code} {a : Act} {w : World} (h : ∀ Q0 : Exit → Act → World → Prop, (∀ a w, Q .normal a w → Q0 .normal a w) → c.wp P Q0 a w) : c.wp P Q a w := h Q (fun _ _ h => h)
end
end Go.Proofs.YtdbpfemkjfogoaaGreatDoor
