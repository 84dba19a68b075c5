/- The region 's.Ops = append(s.Ops, o)': what each of its operations keeps. -/
import Derived.Test.YtbaobjkhdieapaaDoorEvt
import Derived.Test.YtbaobjkhdieapaaDoorT
namespace Go.Proofs.YtbaobjkhdieapaaDoor
open Go.RowKit
set_option linter.unusedVariables false
set_option linter.unusedSimpArgs false

section
variable {ia is : Nat} {w : World} {B b : Nat} {v0 : Value} {l : List Op3} {o : Op3} {asked : Int} {d : Nat → Bool} {wx : World}
theorem AJ.start (h : ShelfOwn w B b v0 l asked) : AJ ia is w B b v0 l o asked (fun _ => false) w.drew :=
  ⟨(KeptBut.refl w _).drew, fun _ => rfl, fun _ => h.own, fun h => by cases h⟩
theorem AJ.alloc (h : AJ ia is w B b v0 l o asked d wx) (i : Nat) (h1 : ia ≠ i) (h2 : is ≠ i) (hd : d is = false) (hb : b < w.heap.size) (ob : Obj) : AJ ia is w B b v0 l o asked (setD d i) (wx.alloc ob) := by
  have hs := h.kept.size
  have hbl := (Below.refl wx.heap.size wx).alloc (Nat.le_refl _) ob
  refine ⟨h.kept.then_below hbl, fun _ => ?_, fun hd' => ?_, fun hd' => ?_⟩
  · rw [hbl.block b (by omega)]
    exact h.before hd
  · unfold setD at hd'
    rw [if_neg h1] at hd'
    exact World.ownsRow.alloc (h.row hd') ob
  · unfold setD at hd'
    rw [if_neg h2, hd] at hd'
    cases hd'
theorem AJ.grow (h : AJ ia is w B b v0 l o asked d wx) (h2 : is ≠ ia) (hd : d is = false) (hb : b < w.heap.size) (hap : v0.ownBlock ≠ some b) {wy : World} (hg : wx.grownBy wy v0.ownBlock) : AJ ia is w B b v0 l o asked (setD d ia) wy := by
  have hs := h.kept.size
  refine ⟨h.kept.then_grown hg (fun k hk => .inr hk), fun _ => ?_, fun hd' => ?_, fun hd' => ?_⟩
  · rw [hg.block b (by omega) (fun e => hap e.symm)]
    exact h.before hd
  · unfold setD at hd'
    rw [if_pos rfl] at hd'
    cases hd'
  · unfold setD at hd'
    rw [if_neg h2, hd] at hd'
    cases hd'
theorem AJ.store (h : AJ ia is w B b v0 l o asked d wx) (h1 : ia ≠ is) (hd : d is = false) (hda : d ia = true) (hS : ShelfOwn w B b v0 l asked) {v' : Value} (hv : GotRow B b (l ++ [o]) v' wx) : AJ ia is w B b v0 l o asked (setD d is) (wx.setCell ⟨b, 0, none⟩ v') := by
  have hbox := (h.before hd).trans hS.box
  refine ⟨h.kept.then_set (.inl rfl), fun hd' => ?_, fun hd' => ?_, fun _ => ⟨v', ?_, ?_, hv.2, hS.hB⟩⟩
  · unfold setD at hd'
    rw [if_pos rfl] at hd'
    cases hd'
  · unfold setD at hd'
    rw [if_neg h1, hda] at hd'
    cases hd'
  · simp [World.setCell, Array.getElem?_modify, hbox]
  · exact own3_below hv.1 fun k hk => Below.heap_setCell _ _ _ _ (fun e => hv.2 (by rw [hk, e]))

theorem NewRow.alloc {xs : List Value} {v : Value} (h : NewRow w xs v wx) (ob : Obj) : NewRow w xs v (wx.alloc ob) := by
  obtain ⟨g, e, h1, h2, h3⟩ := h
  exact ⟨g, e, h1, by simp; omega, h3.alloc (by omega) ob⟩
theorem NewRow.grown {xs : List Value} {v : Value} (h : NewRow w xs v wx) {wy : World} {row : Option Nat} (hg : wx.grownBy wy row) (hr : ∀ k, row = some k → k < w.heap.size) : NewRow w xs v wy := by
  obtain ⟨g, e, h1, h2, h3⟩ := h
  refine ⟨g, e, h1, by have := hg.size; omega, h3.1, fun hn => ?_⟩
  obtain ⟨ad, ea, hb, hc⟩ := h3.2 hn
  injection ea with ea
  subst ea
  refine ⟨_, rfl, hb, fun j u hu => ?_⟩
  rw [World.cell?_of_block (hg.block _ (by rw [block_of_add]; exact h2) (fun e2 => by rw [block_of_add] at e2; have := hr _ e2.symm; simp only [] at this; omega))]
  exact hc j u hu
theorem NewRow.set {xs : List Value} {v : Value} (h : NewRow w xs v wx) {c : Nat} {u : Value} (hb : b < w.heap.size) : NewRow w xs v (wx.setCell ⟨b, c, none⟩ u) := by
  obtain ⟨g, e, h1, h2, h3⟩ := h
  refine ⟨g, e, h1, by simpa [World.setCell] using h2, h3.1, fun hn => ?_⟩
  obtain ⟨ad, ea, hbb, hc⟩ := h3.2 hn
  injection ea with ea
  subst ea
  refine ⟨_, rfl, hbb, fun j u hu => ?_⟩
  rw [World.cell?_setCell_other _ _ _ _ (fun e2 => by
    have := congrArg Addr.block e2
    rw [block_of_add] at this
    simp only [] at this
    omega)]
  exact hc j u hu
theorem NewRow.new (x y z : Value) (t : TypeId) (hs : w.heap.size ≤ wx.heap.size) : NewRow w [x, y, z] (.slice (some ⟨wx.heap.size, 0, none⟩) 1 1) (wx.alloc (.cells #[x, y, z] t)) :=
  ⟨wx.heap.size, rfl, hs, by simp, reads3 wx t x y z⟩
theorem GotRow.alloc {v : Value} (h : GotRow B b l v wx) (ob : Obj) : GotRow B b l v (wx.alloc ob) := ⟨World.ownsRow.alloc h.1 ob, h.2⟩
theorem GotRow.set {v : Value} (h : GotRow B b l v wx) {c : Nat} {u : Value} : GotRow B b l v (wx.setCell ⟨b, c, none⟩ u) :=
  ⟨own3_below h.1 fun k hk => Below.heap_setCell _ _ _ _ (fun e => h.2 (by rw [hk, e])), h.2⟩
theorem GotRow.form {v : Value} (h : GotRow B b l v wx) : ∃ A n c, v = .slice A n c := by
  rcases h.1.2 with ⟨hv, _⟩ | ⟨g, cap, cur, hv, _⟩
  · exact ⟨_, _, _, hv⟩
  · exact ⟨_, _, _, hv⟩
theorem GotRow.of_law {v : Value} (h : wx.ownsRow B 24 3 v (l.length + 1) (opsV l ++ [.string o.key, .string o.val, .bool o.gone])) (hb : v.ownBlock ≠ some b) : GotRow B b (l ++ [o]) v wx := by
  refine ⟨?_, hb⟩
  rw [opsV_append, opsV_one, List.length_append]
  exact h
end
end Go.Proofs.YtbaobjkhdieapaaDoor
