/- table.Builder: Add: what its regions do to the builder's block. -/
import Derived.Test.YtfnlponoakhegaaDoorB04
import Derived.Test.YtfnlponoakhegaaDoorB00
namespace Go.Proofs.YtfnlponoakhegaaDoor
open Go.RowKit
set_option linter.unusedVariables false
set_option linter.unusedSimpArgs false
theorem TBAt.reblk {w w' : World} {B g : Nat} {s s' : TB} {vb1 vs1 vb2 vs2 vk vp : Value} (h : TBAt w B g s vb1 vs1 vb2 vs2 vk vp) (hk : KeptBut w w' (fun k => k = g)) (hb : Blk w' g 67 (tbC s' vb1 vs1 vb2 vs2 vk vp))
    (hd : s'.data = s.data) (hi : s'.index = s.index) (hks : s'.keys = s.keys) (hp : s'.parts = s.parts) : TBAt w' B g s' vb1 vs1 vb2 vs2 vk vp := by
  have k : ∀ {e v n xs}, w.ownsRow B e 1 v n xs → e ≠ 67 → w'.ownsRow B e 1 v n xs := fun h' he => own_kept h' hk (fun k hk e => own_blk_ne h' h.blk he (by rw [hk, e]))
  refine ⟨h.hB, hb, ?_, ?_, ?_, ?_, ?_, ?_, h.nb, h.ns, h.np⟩
  · rw [hd]; exact k h.o1 (by decide)
  · rw [hd]; exact k h.p1 (by decide)
  · rw [hi]; exact k h.o2 (by decide)
  · rw [hi]; exact k h.p2 (by decide)
  · rw [hks]; exact k h.ok (by decide)
  · rw [hp]; exact k h.op (by decide)
theorem TBAt.rekeys {w w' : World} {B g : Nat} {s : TB} {vb1 vs1 vb2 vs2 vk vp x : Value} {ks : List L} (h : TBAt w B g s vb1 vs1 vb2 vs2 vk vp) (hk : KeptBut w w' (fun k => k = g ∨ vk.ownBlock = some k)) (ho : OwnS w' B x ks) (hm : Mv w vk x)
    (hb : Blk w' g 67 (tbC { s with keys := ks } vb1 vs1 vb2 vs2 x vp)) : TBAt w' B g { s with keys := ks } vb1 vs1 vb2 vs2 x vp := by
  have k : ∀ {e v n xs}, w.ownsRow B e 1 v n xs → e ≠ 67 → e ≠ 9 → w'.ownsRow B e 1 v n xs := fun h' he hs => own_kept h' hk (fun k hk e => by
    rcases e with e | e
    · exact own_blk_ne h' h.blk he (by rw [hk, e])
    · exact own_types h' h.ok hs k hk e)
  refine ⟨h.hB, hb, k h.o1 (by decide) (by decide), k h.p1 (by decide) (by decide), k h.o2 (by decide) (by decide), k h.p2 (by decide) (by decide), ho, own_kept h.op hk (fun k hk e => ?_), h.nb, h.ns, fun k hk e => ?_⟩
  · rcases e with e | e
    · exact own_blk_ne h.op h.blk (by decide) (by rw [hk, e])
    · exact h.np k e hk
  · rcases hm k hk with e1 | e1
    · exact h.np k e1 e
    · have := (own_lt h.op k e).2
      omega
theorem keys_facts {w w2 : World} {B g n cp : Nat} {s : TB} {vb1 vs1 vb2 vs2 vp : Value} {Ap : Option Addr} {o : Obj} (h : TBAt w B g s vb1 vs1 vb2 vs2 (.slice Ap n cp) vp) (hg : (w.alloc o).grownBy w2 (Value.slice Ap n cp).ownBlock) :
    KeptBut w w2 (fun k => (Value.slice Ap n cp).ownBlock = some k) ∧ Blk w2 g 67 (tbC s vb1 vs1 vb2 vs2 (.slice Ap n cp) vp) ∧ w2.cell? ⟨g, 17, none⟩ = some (.slice Ap n cp) ∧ w2.frozen? ⟨g, 17, none⟩ = false ∧ g < w2.heap.size := by
  have hk2 : KeptBut w w2 (fun k => (Value.slice Ap n cp).ownBlock = some k) := (KeptBut.of_below ((Below.refl _ _).alloc (Nat.le_refl _) _)).then_grown hg (fun k e => e)
  have hXw := h.blk.keptB hk2 (own_blk_ne h.ok h.blk (by decide))
  exact ⟨hk2, hXw, hXw.cell 17, hXw.frozen 17, hXw.lt⟩
/-- The cells of t, some of them turned. -/
def st16 (s : TB) (e : Ent) (vb1 vs1 vb2 vs2 vk vp : Value) (a b c : Bool) : Array Value :=
  tbC { s with t := { s.t with first := if a then e.key else s.t.first, least := if b then e.seq else s.t.least, most := if c then e.seq else s.t.most } } vb1 vs1 vb2 vs2 vk vp
def st19 (s : TB) (e : Ent) (vb1 vs1 vb2 vs2 vk vp : Value) (a b c d : Bool) : Array Value :=
  tbC { s with t := { s.t with count := if a then s.t.count + 1 else s.t.count, last := if b then e.key else s.t.last, least := if c then min s.t.least e.seq else s.t.least, most := if d then max s.t.most e.seq else s.t.most } } vb1 vs1 vb2 vs2 vk vp
section
variable {s : TB} {e : Ent} {vb1 vs1 vb2 vs2 vk vp : Value} {a b c d : Bool}
theorem st16_4 : (st16 s e vb1 vs1 vb2 vs2 vk vp a b c).setIfInBounds 4 (.string (bs e.key)) = st16 s e vb1 vs1 vb2 vs2 vk vp true b c := by cases a <;> cases b <;> cases c <;> rfl
theorem st16_6 : (st16 s e vb1 vs1 vb2 vs2 vk vp a b c).setIfInBounds 6 (.int .u64 (e.seq : Nat)) = st16 s e vb1 vs1 vb2 vs2 vk vp a true c := by cases a <;> cases b <;> cases c <;> rfl
theorem st16_7 : (st16 s e vb1 vs1 vb2 vs2 vk vp a b c).setIfInBounds 7 (.int .u64 (e.seq : Nat)) = st16 s e vb1 vs1 vb2 vs2 vk vp a b true := by cases a <;> cases b <;> cases c <;> rfl
theorem st19_2 : (st19 s e vb1 vs1 vb2 vs2 vk vp a b c d).setIfInBounds 2 (.int .i64 ((s.t.count + 1 : Nat) : Int)) = st19 s e vb1 vs1 vb2 vs2 vk vp true b c d := by cases a <;> cases b <;> cases c <;> cases d <;> rfl
theorem st19_5 : (st19 s e vb1 vs1 vb2 vs2 vk vp a b c d).setIfInBounds 5 (.string (bs e.key)) = st19 s e vb1 vs1 vb2 vs2 vk vp a true c d := by cases a <;> cases b <;> cases c <;> cases d <;> rfl
theorem st19_6 : (st19 s e vb1 vs1 vb2 vs2 vk vp a b c d).setIfInBounds 6 (.int .u64 ((min s.t.least e.seq : Nat) : Int)) = st19 s e vb1 vs1 vb2 vs2 vk vp a b true d := by cases a <;> cases b <;> cases c <;> cases d <;> rfl
theorem st19_7 : (st19 s e vb1 vs1 vb2 vs2 vk vp a b c d).setIfInBounds 7 (.int .u64 ((max s.t.most e.seq : Nat) : Int)) = st19 s e vb1 vs1 vb2 vs2 vk vp a b c true := by cases a <;> cases b <;> cases c <;> cases d <;> rfl
theorem st19_c : (st19 s e vb1 vs1 vb2 vs2 vk vp false b c d)[2]? = some (.int .i64 (s.t.count : Nat)) := by cases b <;> cases c <;> cases d <;> rfl
theorem st19_l : (st19 s e vb1 vs1 vb2 vs2 vk vp a b false d)[6]? = some (.int .u64 (s.t.least : Nat)) := by cases a <;> cases b <;> cases d <;> rfl
theorem st19_m : (st19 s e vb1 vs1 vb2 vs2 vk vp a b c false)[7]? = some (.int .u64 (s.t.most : Nat)) := by cases a <;> cases b <;> cases c <;> rfl
theorem some_of {cs : Array Value} {i : Nat} (h : i < cs.size) : ∃ v, cs[i]? = some v := ⟨cs[i], Array.getElem?_eq_getElem h⟩
theorem st16_sz : (st16 s e vb1 vs1 vb2 vs2 vk vp a b c).size = 21 := rfl
theorem st19_sz : (st19 s e vb1 vs1 vb2 vs2 vk vp a b c d).size = 21 := rfl
end
/-- What a region that turns the builder's block alone has done. -/
def JT (w1 : World) (g : Nat) (cs : Array Value) (w : World) : Prop := Blk w g 67 cs ∧ KeptBut w1 w (fun k => k = g)
theorem JT.set {w1 w : World} {g : Nat} {cs cs' : Array Value} {i : Nat} {v : Value} (h : JT w1 g cs w) (he : cs.setIfInBounds i v = cs') : JT w1 g cs' (w.setCell ⟨g, i, none⟩ v) :=
  ⟨he ▸ h.1.set_ i v, h.2.then_set rfl⟩
theorem BB.add_bd (s : BB) (k v : L) {N : Nat} (h1 : s.b.length ≤ N) (h2 : s.starts.length ≤ N) (h3 : ∀ n ∈ s.starts, n ≤ N) (h4 : s.count ≤ N) : (s.add k v).b.length ≤ N + (k.length + v.length + 27) ∧ (s.add k v).starts.length ≤ N + 1 ∧ (∀ n ∈ (s.add k v).starts, n ≤ N) ∧ (s.add k v).count ≤ N + 1 := by
  unfold BB.add
  split
  · unfold BB.put
    have := s.enc_len k v
    refine ⟨by simp; omega, ?_, ?_, by simp; omega⟩
    · simp only []
      split
      · simp; omega
      · omega
    · simp only []
      intro n hn
      split at hn
      · rcases List.mem_append.1 hn with hn | hn
        · exact h3 n hn
        · simp at hn; omega
      · exact h3 n hn
  · exact ⟨by omega, by omega, h3, by omega⟩
theorem rowV_len (e : Ent) : (rowV e).length = e.value.length + 1 := by unfold rowV; simp
def usT (l : List Value) : Nat → Value := fun k => l.getD k undef
end Go.Proofs.YtfnlponoakhegaaDoor
