/- The region 's.Ops = append(s.Ops, once.Keep(..))': what its operations leave. -/
import Derived.Test.YtbaobjkhdieapaaDoorArr
namespace Go.Proofs.YtbaobjkhdieapaaDoor
open Go.RowKit
set_option linter.unusedVariables false
set_option linter.unusedSimpArgs false

section
variable {ia is : Nat} {w : World} {B b : Nat} {v0 : Value} {l : List Op3} {o : Op3} {asked : Int} {d : Nat → Bool} {wx wy : World}
theorem AJ.below (h : AJ ia is w B b v0 l o asked d wx) (i : Nat) (h1 : ia ≠ i) (h2 : is ≠ i) (hd : d is = false) (hb : b < w.heap.size) (hrow : ∀ k, v0.ownBlock = some k → k < w.heap.size) (hbl : Below wx.heap.size wx wy) : AJ ia is w B b v0 l o asked (setD d i) wy := by
  have hs := h.kept.size
  refine ⟨h.kept.then_below hbl, fun _ => ?_, fun hd' => ?_, fun hd' => ?_⟩
  · rw [hbl.block b (by omega)]
    exact h.before hd
  · unfold setD at hd'
    rw [if_neg h1] at hd'
    exact own3_below (h.row hd') fun k hk => hbl.block k (by have := hrow k hk; omega)
  · unfold setD at hd'
    rw [if_neg h2, hd] at hd'
    cases hd'
theorem NewRow.below {xs : List Value} {v : Value} (h : NewRow w xs v wx) (hbl : Below wx.heap.size wx wy) : NewRow w xs v wy := by
  obtain ⟨g, e, h1, h2, h3⟩ := h
  exact ⟨g, e, h1, by have := hbl.size; omega, h3.below (hbl.mono (by omega))⟩
theorem GotRow.below {v : Value} (h : GotRow B b l v wx) (hbl : Below wx.heap.size wx wy) : GotRow B b l v wy :=
  ⟨own3_below h.1 fun k hk => hbl.block k ((World.ownsRow.lt h.1) k hk).2, h.2⟩
end

def eTau (w : World) (B b : Nat) (v0 : Value) (l : List Op3) (o : Op3) (xb : Nat) (c n : Int) (a : ByteArray) : Nat → Value → World → Prop
  | 0, v, _ => v = .pointer (some ⟨b, 0, none⟩)
  | 1, v, _ => v = .pointer (some ⟨b, 0, none⟩)
  | 2, v, _ => v = .pointer (some ⟨b, 0, none⟩)
  | 3, v, _ => v = .pointer (some ⟨b, 0, none⟩)
  | 4, v, _ => v = v0
  | 5, v, _ => v = .pointer (some ⟨xb, 0, none⟩)
  | 6, v, _ => v = .int .u8 c
  | 7, v, _ => v = .pointer (some ⟨xb, 1, none⟩)
  | 8, v, _ => v = .int .u64 n
  | 9, v, _ => v = .pointer (some ⟨xb, 2, none⟩)
  | 10, v, _ => v = .string a
  | 11, v, _ => v = .agg #[.string o.key, .string o.val, .bool o.gone]
  | 12, v, wx => NewRow w [.string o.key, .string o.val, .bool o.gone] v wx
  | 13, v, wx => GotRow B b (l ++ [o]) v wx
  | 14, v, _ => v = .pointer (some ⟨b, 0, none⟩)
  | 15, v, _ => v = .pointer (some ⟨b, 0, none⟩)
  | _, _, _ => True
section
variable {w : World} {B b : Nat} {v0 : Value} {l : List Op3} {o : Op3} {xb : Nat} {c n : Int} {a : ByteArray} {wx wy : World}
theorem eTau_below (i : Nat) (u : Value) (h : eTau w B b v0 l o xb c n a i u wx) (hb : Below wx.heap.size wx wy) : eTau w B b v0 l o xb c n a i u wy := by
  unfold eTau at *
  split at h <;> first | exact h | exact NewRow.below h hb | exact GotRow.below h hb
theorem eTau_grown (i : Nat) (u : Value) (h7 : i ≠ 13) (h : eTau w B b v0 l o xb c n a i u wx) (hg : wx.grownBy wy v0.ownBlock) (hr : ∀ k, v0.ownBlock = some k → k < w.heap.size) : eTau w B b v0 l o xb c n a i u wy := by
  unfold eTau at *
  split at h <;> first | exact h | exact NewRow.grown h hg hr | exact absurd rfl h7
theorem eTau_set (i : Nat) (u : Value) (h : eTau w B b v0 l o xb c n a i u wx) (hb : b < w.heap.size) (k : Nat) (z : Value) : eTau w B b v0 l o xb c n a i u (wx.setCell ⟨b, k, none⟩ z) := by
  unfold eTau at *
  split at h <;> first | exact h | exact NewRow.set h hb | exact GotRow.set h
end
/-- The region 'is[c], last[c], told[c] = true, n, a': three stores, each into a row of its own. -/
structure SJ (i1 i2 i3 : Nat) (wy : World) (gI gN gT tI tN tT : Nat) (fI fN fT : Nat → Value) (c : Nat) (vi vn va : Value) (d : Nat → Bool) (wx : World) : Prop where
  kept : KeptBut wy wx (fun b => b = gI ∨ b = gN ∨ b = gT)
  atI : ArrAt wx gI tI (fun i => if d i1 = true ∧ i = c then vi else fI i)
  atN : ArrAt wx gN tN (fun i => if d i2 = true ∧ i = c then vn else fN i)
  atT : ArrAt wx gT tT (fun i => if d i3 = true ∧ i = c then va else fT i)
theorem ArrAt.congr {w : World} {g t : Nat} {f f' : Nat → Value} (h : ArrAt w g t f) (hf : ∀ i, f i = f' i) : ArrAt w g t f' := by
  rw [← funext hf]; exact h
section
variable {i1 i2 i3 : Nat} {wy : World} {gI gN gT tI tN tT : Nat} {fI fN fT : Nat → Value} {c : Nat} {vi vn va : Value} {d : Nat → Bool} {wx : World}
theorem SJ.start (hI : ArrAt wy gI tI fI) (hN : ArrAt wy gN tN fN) (hT : ArrAt wy gT tT fT) : SJ i1 i2 i3 wy gI gN gT tI tN tT fI fN fT c vi vn va (fun _ => false) wy.drew := by
  have hd : Below wy.heap.size wy wy.drew := (Below.refl _ _).drew
  refine ⟨(KeptBut.refl wy _).drew, (hI.below hd).congr fun i => ?_, (hN.below hd).congr fun i => ?_, (hT.below hd).congr fun i => ?_⟩ <;> rw [if_neg (fun h => by cases h.1)]
theorem SJ.other (h : SJ i1 i2 i3 wy gI gN gT tI tN tT fI fN fT c vi vn va d wx) (i : Nat) (h1 : i1 ≠ i) (h2 : i2 ≠ i) (h3 : i3 ≠ i) : SJ i1 i2 i3 wy gI gN gT tI tN tT fI fN fT c vi vn va (setD d i) wx := by
  refine ⟨h.kept, ?_, ?_, ?_⟩
  · have := h.atI; unfold setD; rw [if_neg h1]; exact this
  · have := h.atN; unfold setD; rw [if_neg h2]; exact this
  · have := h.atT; unfold setD; rw [if_neg h3]; exact this
theorem SJ.set1 (h : SJ i1 i2 i3 wy gI gN gT tI tN tT fI fN fT c vi vn va d wx) (h2 : i2 ≠ i1) (h3 : i3 ≠ i1) (g2 : gN ≠ gI) (g3 : gT ≠ gI) : SJ i1 i2 i3 wy gI gN gT tI tN tT fI fN fT c vi vn va (setD d i1) (wx.setCell ⟨gI, c, none⟩ vi) := by
  refine ⟨h.kept.then_set (.inl rfl), (h.atI.set c vi).congr fun i => ?_, ?_, ?_⟩
  · unfold setD
    by_cases e : i = c
    · rw [if_pos e, if_pos ⟨by rw [if_pos rfl], e⟩]
    · rw [if_neg e, if_neg (fun h => e h.2), if_neg (fun h => e h.2)]
  · have := h.atN.set_other g2 c vi; unfold setD; rw [if_neg h2]; exact this
  · have := h.atT.set_other g3 c vi; unfold setD; rw [if_neg h3]; exact this
theorem SJ.set2 (h : SJ i1 i2 i3 wy gI gN gT tI tN tT fI fN fT c vi vn va d wx) (h2 : i1 ≠ i2) (h3 : i3 ≠ i2) (g2 : gI ≠ gN) (g3 : gT ≠ gN) : SJ i1 i2 i3 wy gI gN gT tI tN tT fI fN fT c vi vn va (setD d i2) (wx.setCell ⟨gN, c, none⟩ vn) := by
  refine ⟨h.kept.then_set (.inr (.inl rfl)), ?_, (h.atN.set c vn).congr fun i => ?_, ?_⟩
  · have := h.atI.set_other g2 c vn; unfold setD; rw [if_neg h2]; exact this
  · unfold setD
    by_cases e : i = c
    · rw [if_pos e, if_pos ⟨by rw [if_pos rfl], e⟩]
    · rw [if_neg e, if_neg (fun h => e h.2), if_neg (fun h => e h.2)]
  · have := h.atT.set_other g3 c vn; unfold setD; rw [if_neg h3]; exact this
theorem SJ.set3 (h : SJ i1 i2 i3 wy gI gN gT tI tN tT fI fN fT c vi vn va d wx) (h2 : i1 ≠ i3) (h3 : i2 ≠ i3) (g2 : gI ≠ gT) (g3 : gN ≠ gT) : SJ i1 i2 i3 wy gI gN gT tI tN tT fI fN fT c vi vn va (setD d i3) (wx.setCell ⟨gT, c, none⟩ va) := by
  refine ⟨h.kept.then_set (.inr (.inr rfl)), ?_, ?_, (h.atT.set c va).congr fun i => ?_⟩
  · have := h.atI.set_other g2 c va; unfold setD; rw [if_neg h2]; exact this
  · have := h.atN.set_other g3 c va; unfold setD; rw [if_neg h3]; exact this
  · unfold setD
    by_cases e : i = c
    · rw [if_pos e, if_pos ⟨by rw [if_pos rfl], e⟩]
    · rw [if_neg e, if_neg (fun h => e h.2), if_neg (fun h => e h.2)]
end
theorem ShelfOwn.kept {w w' : World} {S : Nat → Prop} {B b : Nat} {v : Value} {l : List Op3} {asked : Int} (h : ShelfOwn w B b v l asked) (hk : KeptBut w w' S) (hb : ¬ S b) (hr : ∀ k, v.ownBlock = some k → ¬ S k) : ShelfOwn w' B b v l asked :=
  ⟨(hk.block b h.lt hb).trans h.box, own3_below h.own fun k hk' => hk.block k (h.row_lt k hk').2 (hr k hk'), h.apart, h.hB⟩
theorem ShelfOwn.append {w w2 : World} {B b : Nat} {v0 v2 : Value} {l : List Op3} {o : Op3} {asked : Int} {ob : Obj} (h : ShelfOwn w B b v0 l asked)
    (hown : w2.ownsRow B 24 3 v2 (l.length + 1) (opsV l ++ [.string o.key, .string o.val, .bool o.gone])) (hg : (w.alloc ob).grownBy w2 v0.ownBlock)
    (hat : v2.ownBlock = v0.ownBlock ∨ v2.ownBlock = some (w.heap.size + 1)) :
    ShelfOwn (w2.setCell ⟨b, 0, none⟩ v2) B b v2 (l ++ [o]) asked ∧ KeptBut w (w2.setCell ⟨b, 0, none⟩ v2) (fun k => k = b ∨ v0.ownBlock = some k) ∧ w2.cell? ⟨b, 0, none⟩ = some v0 ∧ w2.frozen? ⟨b, 0, none⟩ = false ∧ ∃ A n c, v2 = .slice A n c := by
  have hb := h.lt
  have hne : v2.ownBlock ≠ some b := by
    rcases hat with e | e
    · rw [e]; exact h.apart
    · rw [e]; intro e2; injection e2 with e2; omega
  have hgot : GotRow B b (l ++ [o]) v2 w2 := GotRow.of_law hown hne
  have hbox : w2.heap[b]? = some (.cells #[v0, .int .i64 asked] 30 (0, 0)) := by
    rw [hg.block b (by simp; omega) (fun e => h.apart e.symm), Below.heap_alloc _ _ _ hb]
    exact h.box
  refine ⟨⟨?_, ?_, hne, h.hB⟩, ?_, ?_, ?_, hgot.form⟩
  · simp [World.setCell, Array.getElem?_modify, hbox]
  · exact own3_below hgot.1 fun k hk => Below.heap_setCell _ _ _ _ (fun e => hne (by rw [hk, e]))
  · exact (((KeptBut.refl w _).then_below ((Below.refl _ _).alloc (Nat.le_refl _) ob)).then_grown hg (fun k hk => .inr hk)).then_set (.inl rfl)
  · simp [World.cell?, hbox]
  · simp [World.frozen?, hbox]
theorem isV_snoc (E : List Ev) (e : Ev) (i : Nat) : isV (E ++ [e]) i = if i = e.c then .bool true else isV E i := by
  unfold isV
  rw [lastEv_at]
  by_cases h : i = e.c
  · rw [if_pos h, if_pos h]; rfl
  · rw [if_neg h, if_neg h]
theorem nV_snoc (E : List Ev) (e : Ev) (i : Nat) : nV (E ++ [e]) i = if i = e.c then .int .u64 (e.n : Int) else nV E i := by
  unfold nV
  rw [lastEv_at]
  by_cases h : i = e.c
  · rw [if_pos h, if_pos h]
  · rw [if_neg h, if_neg h]
theorem aV_snoc (E : List Ev) (e : Ev) (i : Nat) : aV (E ++ [e]) i = if i = e.c then .string (bs e.a) else aV E i := by
  unfold aV
  rw [lastEv_at]
  by_cases h : i = e.c
  · rw [if_pos h, if_pos h]
  · rw [if_neg h, if_neg h]
end Go.Proofs.YtbaobjkhdieapaaDoor
