/- The document's builder: Add, where it takes an entry. -/
import Derived.Test.YtfnlponoakhegaaDoorRLJ
import Derived.Test.YtfnlponoakhegaaDoorB24
import Derived.Test.YtfnlponoakhegaaDoorB22
import Derived.Deep.DeepCutAuto
namespace Go.Proofs.YtfnlponoakhegaaDoor
open Go.RowKit
set_option linter.unusedVariables false
set_option linter.unusedSimpArgs false
theorem own_mono {w : World} {B B' e size n : Nat} {v : Value} {xs : List Value} (h : w.ownsRow B e size v n xs) (hB : B' ≤ B) : w.ownsRow B' e size v n xs :=
  ⟨h.1, h.2.imp id fun ⟨g, cap, cur, hv, hb, rest⟩ => ⟨g, cap, cur, hv, Nat.le_trans hB hb, rest⟩⟩
theorem ownE_zero (w : World) (B : Nat) (hB : B ≤ w.heap.size) : OwnE (w.alloc (.cells #[] 33)) B (.slice (some ⟨w.heap.size, 0, none⟩) 0 0) [] :=
  ⟨rfl, .inr ⟨w.heap.size, 0, #[], rfl, hB, Blk.new w 33 #[], Nat.le_refl _, Nat.zero_le _, rfl, rfl⟩⟩
/-- What the operations of 'b.L = append(append([]api.Entry{}, b.L...), e)' leave, in any order that may be. -/
structure QJ (w0 : World) (g n : Nat) (lv : Int) (v0 : Value) (own : List Ent) (e : Ent) (d : Nat → Bool) (us : Nat → Value) (w : World) : Prop where
  kept : KeptBut w0 w (fun k => k = g)
  b1 : d 1 = true → d 6 = false → OwnE w w0.heap.size (us 1) []
  b6 : d 6 = true → d 9 = false → OwnE w w0.heap.size (us 6) own
  b8 : d 8 = true → d 9 = false → ∃ b, us 8 = .slice (some ⟨b, 0, none⟩) 1 1 ∧ w0.heap.size ≤ b ∧ Blk w b 33 (entC e) ∧ (d 1 = true → d 6 = false → (us 1).ownBlock ≠ some b) ∧ (d 6 = true → (us 6).ownBlock ≠ some b)
  b9 : d 9 = true → OwnE w w0.heap.size (us 9) (own ++ [e])
  blk : Blk w g 50 #[.int .u64 (n : Nat), .int .i64 lv, if d 12 = true then us 9 else v0, .bool false]
section
variable {w0 w w' : World} {g n : Nat} {lv : Int} {v0 : Value} {own : List Ent} {e : Ent} {d : Nat → Bool} {us : Nat → Value}
theorem QJ.start (h : Blk w0 g 50 #[.int .u64 (n : Nat), .int .i64 lv, v0, .bool false]) : QJ w0 g n lv v0 own e (fun _ => false) us w0.drew :=
  ⟨(KeptBut.refl _ _).drew, (fun h => by cases h), (fun h => by cases h), (fun h => by cases h), (fun h => by cases h), h⟩
theorem QJ.other (h : QJ w0 g n lv v0 own e d us w) (i : Nat) (h1 : i ≠ 1) (h6 : i ≠ 6) (h8 : i ≠ 8) (h9 : i ≠ 9) (h12 : i ≠ 12) {v : Value} : QJ w0 g n lv v0 own e (setD d i) (updU us i v) w := by
  obtain ⟨q1, q2, q3, q4, q5, q6⟩ := h
  refine ⟨q1, ?_, ?_, ?_, ?_, ?_⟩ <;> unfold setD updU <;> simp only [Ne.symm h1, Ne.symm h6, Ne.symm h8, Ne.symm h9, Ne.symm h12, if_false] <;> assumption
theorem QJ.made (h : QJ w0 g n lv v0 own e d us w) (h9 : d 9 = false) : QJ w0 g n lv v0 own e (setD d 1) (updU us 1 (.slice (some ⟨w.heap.size, 0, none⟩) 0 0)) (w.alloc (.cells #[] 33)) := by
  obtain ⟨q1, q2, q3, q4, q5, q6⟩ := h
  have hb : Below w.heap.size w (w.alloc (.cells #[] 33)) := (Below.refl _ _).alloc (Nat.le_refl _) _
  refine ⟨q1.then_below hb, ?_, ?_, ?_, ?_, ?_⟩
  · intro _ _
    exact ownE_zero w _ q1.size
  · intro a b
    exact (q3 a b).below hb
  · intro a c
    obtain ⟨b, x1, x2, x3, x4, x5⟩ := q4 a c
    refine ⟨b, x1, x2, x3.below hb x3.lt, fun _ _ => ?_, x5⟩
    show (some w.heap.size : Option Nat) ≠ some b
    intro e
    injection e with e
    have := x3.lt
    omega
  · intro a
    exact (q5 a).below hb
  · exact q6.below hb q6.lt
theorem QJ.boxed (h : QJ w0 g n lv v0 own e d us w) (h9 : d 9 = false) : QJ w0 g n lv v0 own e (setD d 8) (updU us 8 (.slice (some ⟨w.heap.size, 0, none⟩) 1 1)) (w.alloc (.cells (entC e) 33)) := by
  obtain ⟨q1, q2, q3, q4, q5, q6⟩ := h
  have hb : Below w.heap.size w (w.alloc (.cells (entC e) 33)) := (Below.refl _ _).alloc (Nat.le_refl _) _
  refine ⟨q1.then_below hb, ?_, ?_, ?_, ?_, ?_⟩
  · intro a b
    exact (q2 a b).below hb
  · intro a b
    exact (q3 a b).below hb
  · intro _ _
    refine ⟨w.heap.size, rfl, q1.size, Blk.new _ _ _, fun a h6 => ?_, fun a => ?_⟩
    · show (us 1).ownBlock ≠ _
      intro k
      have := (own_lt (q2 a h6) _ k).2
      omega
    · show (us 6).ownBlock ≠ _
      intro k
      have := (own_lt (q3 a h9) _ k).2
      omega
  · intro a
    exact (q5 a).below hb
  · exact q6.below hb q6.lt
theorem QJ.app6 (h : QJ w0 g n lv v0 own e d us w) (hg : g < w0.heap.size) (h1 : d 1 = true) (h6 : d 6 = false) (h9 : d 9 = false) (h12 : d 12 = false) {v' : Value} (ho : OwnE w' w0.heap.size v' own) (hgr : w.grownBy w' (us 1).ownBlock) (hat : v'.ownBlock = (us 1).ownBlock ∨ v'.ownBlock = some w.heap.size) : QJ w0 g n lv v0 own e (setD d 6) (updU us 6 v') w' := by
  obtain ⟨q1, q2, q3, q4, q5, q6⟩ := h
  have o1 := q2 h1 h6
  have hk : KeptBut w w' (fun k => (us 1).ownBlock = some k) := (KeptBut.refl _ _).then_grown hgr (fun k e => e)
  refine ⟨q1.trans hk (fun k hk e => by have := (own_lt o1 k e).1; omega), ?_, ?_, ?_, ?_, ?_⟩
  · intro _ b
    exact absurd b (by simp [setD])
  · intro _ _
    exact ho
  · intro a c
    obtain ⟨b, x1, x2, x3, x4, x5⟩ := q4 a c
    have x4' := x4 h1 h6
    refine ⟨b, x1, x2, x3.keptB hk x4', fun _ b => absurd b (by simp [setD]), fun _ => ?_⟩
    show v'.ownBlock ≠ some b
    intro e
    rcases hat with e1 | e1
    · exact x4' (by rw [← e1]; exact e)
    · rw [e1] at e
      injection e with e
      have := x3.lt
      omega
  · intro a
    exact absurd (show d 9 = true from a) (by rw [h9]; decide)
  · have hb := q6.keptB hk (fun e => by have := (own_lt o1 g e).1; omega)
    rw [if_neg (by rw [h12]; decide)] at hb
    rw [if_neg (by show ¬ d 12 = true; rw [h12]; decide)]
    exact hb
theorem QJ.app9 (h : QJ w0 g n lv v0 own e d us w) (hg : g < w0.heap.size) (h6 : d 6 = true) (h9 : d 9 = false) (h12 : d 12 = false) {v' : Value} (ho : OwnE w' w0.heap.size v' (own ++ [e])) (hgr : w.grownBy w' (us 6).ownBlock) : QJ w0 g n lv v0 own e (setD d 9) (updU us 9 v') w' := by
  obtain ⟨q1, q2, q3, q4, q5, q6⟩ := h
  have o1 := q3 h6 h9
  have hk : KeptBut w w' (fun k => (us 6).ownBlock = some k) := (KeptBut.refl _ _).then_grown hgr (fun k e => e)
  refine ⟨q1.trans hk (fun k hk e => by have := (own_lt o1 k e).1; omega), ?_, ?_, ?_, ?_, ?_⟩
  · intro _ b
    exact absurd (show d 6 = false from b) (by rw [h6]; decide)
  · intro _ b
    exact absurd b (by simp [setD])
  · intro _ b
    exact absurd b (by simp [setD])
  · intro _
    exact ho
  · have hb := q6.keptB hk (fun e => by have := (own_lt o1 g e).1; omega)
    rw [if_neg (by rw [h12]; decide)] at hb
    rw [if_neg (by show ¬ d 12 = true; rw [h12]; decide)]
    exact hb
theorem QJ.stored (h : QJ w0 g n lv v0 own e d us w) (hg : g < w0.heap.size) (h9 : d 9 = true) {v : Value} : QJ w0 g n lv v0 own e (setD d 12) (updU us 12 v) (w.setCell ⟨g, 2, none⟩ (us 9)) := by
  obtain ⟨q1, q2, q3, q4, q5, q6⟩ := h
  have hk : KeptBut w (w.setCell ⟨g, 2, none⟩ (us 9)) (fun k => k = g) := (KeptBut.refl _ _).then_set rfl
  refine ⟨q1.then_set rfl, ?_, ?_, ?_, ?_, ?_⟩
  · intro a b
    exact own_kept (q2 a b) hk (fun k e q => by have := (own_lt (q2 a b) k e).1; omega)
  · intro _ b
    exact absurd (show d 9 = false from b) (by rw [h9]; decide)
  · intro _ b
    exact absurd (show d 9 = false from b) (by rw [h9]; decide)
  · intro _
    exact own_kept (q5 h9) hk (fun k e q => by have := (own_lt (q5 h9) k e).1; omega)
  · have hs := q6.set_ 2 (us 9)
    rw [if_pos (by simp [setD])]
    exact hs
theorem QJ.stored_ (h : QJ w0 g n lv v0 own e d us w) (hg : g < w0.heap.size) (h9 : d 9 = true) {v u : Value} (hu : us 9 = u) : QJ w0 g n lv v0 own e (setD d 12) (updU us 12 v) (w.setCell ⟨g, 2, none⟩ u) := by
  rw [← hu]
  exact h.stored hg h9
theorem QJ.row0 (h : QJ w0 g n lv v0 own e d us w) (h12 : d 12 = false) : w.cell? ⟨g, 2, none⟩ = some v0 := by
  have := h.blk.cell 2
  rw [if_neg (by rw [h12]; decide)] at this
  exact this
theorem QJ.end_ (h : QJ w0 g n lv v0 own e d us w) (h9 : d 9 = true) (h12 : d 12 = true) : KeptBut w0 w (fun k => k = g) ∧ OwnE w w0.heap.size (us 9) (own ++ [e]) ∧ Blk w g 50 #[.int .u64 (n : Nat), .int .i64 lv, us 9, .bool false] := by
  have := h.blk
  rw [if_pos h12] at this
  exact ⟨h.kept, h.b9 h9, this⟩
end
theorem one_ents : ∀ (l : List Ent), ∀ u ∈ entsC l, u.oneCell' = true
  | [], u, h => by cases h
  | e :: l, u, h => by
    have e1 : entsC (e :: l) = [.string (bs e.key), .string (bs e.value), .int .u64 (e.seq : Nat), .bool e.gone] ++ entsC l := rfl
    rw [e1] at h
    rcases List.mem_append.1 h with h | h
    · simp at h
      rcases h with rfl | rfl | rfl | rfl <;> rfl
    · exact one_ents l u h
theorem reads_ent {w : World} {b : Nat} {e : Ent} (h : Blk w b 33 (entC e)) : Reads w w.heap.size 4 (some ⟨b, 0, none⟩) 1 (entsC [e]) := by
  refine ⟨rfl, fun _ => ⟨_, rfl, h.lt, fun j u hu => ?_⟩⟩
  rw [add_off, Nat.zero_add, h.cell j]
  simpa [entC, entsC_one] using hu
set_option maxRecDepth 100000 in
set_option maxHeartbeats 40000000 in
theorem DAdd_ok {w : World} {B g n : Nat} {lv : Int} {own : List Ent} {v : Value} (h : DBAt w B g n lv own false v) (hl : own.length < 1000) (hsm : SmallE own) (e : Ent) (he : docErr false own e = 0) :
    Calls Tryd.prog 20 #[.pointer (some ⟨g, 0, none⟩), .agg (entC e)] w fun r w' => r = .returned (.tuple #[.string (bs (pieceD own e)), .int .i64 0]) ∧ ∃ v', DBAt w' B g n lv (own ++ [e]) false v' ∧ (∀ k, v'.ownBlock = some k → w.heap.size ≤ k) ∧ KeptBut w w' (fun k => k = g) := by
  obtain ⟨i0, hi0, hz0, hz1, hz2⟩ := info_parts entry_info
  have hE : Blk (w.alloc (.cells (entC e) 33)) w.heap.size 33 (entC e) := Blk.new _ _ _
  have hbe : Below w.heap.size w (w.alloc (.cells (entC e) 33)) := (Below.refl _ _).alloc (Nat.le_refl _) _
  have hlw := h.blk.lt
  have hBg := h.hB
  have hB0 := h.blk.alloc (.cells (entC e) 33)
  obtain ⟨A, cap, rfl⟩ := h.row.form
  have hsm2 := hsm.snoc he
  obtain ⟨sk, sv, sq, sg⟩ := docErr_small he
  obtain ⟨w1, hw1⟩ : ∃ w1, w.alloc (.cells (entC e) 33) = w1 := ⟨_, rfl⟩
  have hlx : w.heap.size < (w.alloc (.cells (entC e) 33)).heap.size := by rw [World.size_alloc]; omega
  have hO1 : OwnE (w.alloc (.cells (entC e) 33)) B (.slice A own.length cap) own := World.ownsRow.alloc h.row _
  rw [hw1] at hE hbe hB0 hlx hO1
  have hlg := hB0.lt
  have c2 : w1.cell? ⟨g, 2, none⟩ = some (.slice A own.length cap) := hB0.cell 2
  have c3 : w1.cell? ⟨g, 3, none⟩ = some (.bool false) := hB0.cell 3
  have e0 : w1.cell? ⟨w.heap.size, 0, none⟩ = some (.string (bs e.key)) := hE.cell 0
  have e1 : w1.cell? ⟨w.heap.size, 1, none⟩ = some (.string (bs e.value)) := hE.cell 1
  have e2 : w1.cell? ⟨w.heap.size, 2, none⟩ = some (.int .u64 (e.seq : Nat)) := hE.cell 2
  have e3 : w1.cell? ⟨w.heap.size, 3, none⟩ = some (.bool e.gone) := hE.cell 3
  have hzk : (bs e.key).size = e.key.length := bs_size _
  have hzv : (bs e.value).size = e.value.length := bs_size _
  have hk64' : ¬ (64 : Int) < (e.key.length : Nat) := by omega
  have hv512' : ¬ (512 : Int) < (e.value.length : Nat) := by omega
  have hbad : docBad own e = false := by
    unfold docErr at he
    rw [if_neg (by decide), if_neg (by omega)] at he
    cases hb : docBad own e
    · rfl
    · rw [hb] at he; cases he
  unfold docBad at hbad
  simp only [Bool.or_eq_false_iff, Bool.and_eq_false_iff, decide_eq_false_iff_not] at hbad
  obtain ⟨⟨⟨⟨b1, b2⟩, b3⟩, b4⟩, b5⟩ := hbad
  have hk0b : (((e.key.length : Nat) : Int) == 0) = false := by
    have : e.key.length ≠ 0 := fun h => b1 (List.eq_nil_of_length_eq_zero h)
    simpa using this
  have hs0b : (((e.seq : Nat) : Int) == 0) = false := by simpa using b3
  have hsxb : decide ((9223372036854775808 : Int) < ((e.seq : Nat) : Int)) = false := decide_eq_false (by omega)
  have hblk := Lib.hid fun (W : World) (hb : Below w1.heap.size w1 W) => RBlocks_any A own cap W (Reads.of_own (hO1.below hb)) (by omega) hsm
  have hblk2 := Lib.hid fun (W : World) (A : Option Addr) (cap : Nat) (ho : OwnE W w1.heap.size (.slice A (own ++ [e]).length cap) (own ++ [e])) => RBlocks_any A (own ++ [e]) cap W (Reads.of_own ho) (by simp; omega) hsm2
  replace hsm := 0
  replace hsm2 := 0
  replace he := Lib.hid he
  clear b1 b2 b3 b4
  go_enter Tryd.func20, Tryd.ntmps20
  go_upto_if 74 with fail
  go_cut [74] (fun bv wz => bv = .bool false ∧ Below w1.heap.size w1 wz)
  case first =>
    clear hblk hblk2 hi0 hz0 hz1 hz2
    rcases hgn : e.gone with _ | _
    · rw [hgn] at e3
      by_cases hop : 0 < own.length
      · have hon : (0 : Int) < (own.length : Nat) := by omega
        obtain ⟨y, hy⟩ : ∃ y, own.getLast? = some y := by
          rcases hg : own.getLast? with _ | y
          · have : own = [] := by simpa using hg
            rw [this] at hop
            cases hop
          · exact ⟨y, rfl⟩
        rw [hy] at b5
        have hah : aheadE y e = true := by simpa using b5
        have hyl : own[own.length - 1]? = some y := by rw [← List.getLast?_eq_getElem?]; exact hy
        obtain ⟨ad, rfl, hab, acell⟩ := (Reads.of_own hO1).2 hop
        obtain ⟨bb, oo, rfl⟩ := plain_cell (acell 0 _ (entsC_at own 0 own[0] (List.getElem?_eq_getElem (by omega))).1)
        obtain ⟨q0, q1, q2, q3⟩ := entsC_at own _ _ hyl
        replace q0 := acell _ _ q0
        replace q1 := acell _ _ q1
        replace q2 := acell _ _ q2
        replace q3 := acell _ _ q3
        rw [add_off] at q0 q1 q2 q3
        rw [← Nat.add_assoc] at q1 q2 q3
        have hab' : bb < w1.heap.size := hab
        have hi7 : ((own.length : Nat) : Int) - 1 = ((own.length - 1 : Nat) : Int) := by omega
        have hi7' : own.length - 1 < own.length := by omega
        have hcon := fun W => RAhead_any y e W
        unfold entC at hcon
        rw [hah, hgn] at hcon
        generalize hln : own.length - 1 = ln at *
        replace hln := Lib.hid hln
        replace hcon := Lib.hid hcon
        replace hO1 := Lib.hid hO1
        clear acell hy hyl hah h b5 sg
        go_wp2_with fail
        have hxc := @Ext.cell
        refine wp_region_ext (by kernel_rfl) (by kernel_rfl) ?_
        repeat (go_big_quiet_step ((first | (go_at_call 49; exact Calls.ext (hcon.out _)))))
        refine wpQuiet_nil ?_
        clear hxc
        intro wx hwx
        obtain ⟨x, hx⟩ := hwx
        have hb := x.below
        rw [← hx] at hb
        clear hx x
        go_wp2_with fail
        go_meet
        exact ⟨rfl, hb⟩
      · have hon0 : own = [] := List.eq_nil_of_length_eq_zero (by omega)
        subst hon0
        simp only [List.length_nil] at c2
        clear hop b5 hO1 sg
        go_wp2_with fail
        have hxc := @Ext.cell
        refine wp_region_ext (by kernel_rfl) (by kernel_rfl) ?_
        repeat (go_big_quiet_step ((first | fail)))
        refine wpQuiet_nil ?_
        clear hxc
        intro wx hwx
        obtain ⟨x, hx⟩ := hwx
        have hb := x.below
        rw [← hx] at hb
        clear hx x
        go_wp2_with fail
        go_meet
        exact ⟨rfl, hb⟩
    · have hvn : e.value = [] := sg hgn
      rw [hvn] at e1
      have hz00 : (bs ([] : L)).size = 0 := rfl
      rw [hgn] at e3
      clear hzv hv512'
      by_cases hop : 0 < own.length
      · have hon : (0 : Int) < (own.length : Nat) := by omega
        obtain ⟨y, hy⟩ : ∃ y, own.getLast? = some y := by
          rcases hg : own.getLast? with _ | y
          · have : own = [] := by simpa using hg
            rw [this] at hop
            cases hop
          · exact ⟨y, rfl⟩
        rw [hy] at b5
        have hah : aheadE y e = true := by simpa using b5
        have hyl : own[own.length - 1]? = some y := by rw [← List.getLast?_eq_getElem?]; exact hy
        obtain ⟨ad, rfl, hab, acell⟩ := (Reads.of_own hO1).2 hop
        obtain ⟨bb, oo, rfl⟩ := plain_cell (acell 0 _ (entsC_at own 0 own[0] (List.getElem?_eq_getElem (by omega))).1)
        obtain ⟨q0, q1, q2, q3⟩ := entsC_at own _ _ hyl
        replace q0 := acell _ _ q0
        replace q1 := acell _ _ q1
        replace q2 := acell _ _ q2
        replace q3 := acell _ _ q3
        rw [add_off] at q0 q1 q2 q3
        rw [← Nat.add_assoc] at q1 q2 q3
        have hab' : bb < w1.heap.size := hab
        have hi7 : ((own.length : Nat) : Int) - 1 = ((own.length - 1 : Nat) : Int) := by omega
        have hi7' : own.length - 1 < own.length := by omega
        have hcon := fun W => RAhead_any y e W
        unfold entC at hcon
        rw [hah, hgn, hvn] at hcon
        generalize hln : own.length - 1 = ln at *
        replace hln := Lib.hid hln
        replace hcon := Lib.hid hcon
        replace hO1 := Lib.hid hO1
        clear acell hy hyl hah h b5 sg
        go_wp2_with fail
        have hxc := @Ext.cell
        refine wp_region_ext (by kernel_rfl) (by kernel_rfl) ?_
        repeat (go_big_quiet_step ((first | (go_at_call 49; exact Calls.ext (hcon.out _)))))
        refine wpQuiet_nil ?_
        clear hxc
        intro wx hwx
        obtain ⟨x, hx⟩ := hwx
        have hb := x.below
        rw [← hx] at hb
        clear hx x
        go_wp2_with fail
        go_meet
        exact ⟨rfl, hb⟩
      · have hon0 : own = [] := List.eq_nil_of_length_eq_zero (by omega)
        subst hon0
        simp only [List.length_nil] at c2
        clear hop b5 hO1 sg
        go_wp2_with fail
        have hxc := @Ext.cell
        refine wp_region_ext (by kernel_rfl) (by kernel_rfl) ?_
        repeat (go_big_quiet_step ((first | fail)))
        refine wpQuiet_nil ?_
        clear hxc
        intro wx hwx
        obtain ⟨x, hx⟩ := hwx
        have hb := x.below
        rw [← hx] at hb
        clear hx x
        go_wp2_with fail
        go_meet
        exact ⟨rfl, hb⟩
  case rest =>
    obtain ⟨rfl, hcut⟩ := hcut
    have hO1' := hO1.below hcut
    have yc2 : wc.cell? ⟨g, 2, none⟩ = some (.slice A own.length cap) := (hB0.below hcut hlg).cell 2
    have hlgc := (hB0.below hcut hlg).lt
    go_wp2_with fail
    refine (hblk.out _ hcut).mono ?_
    rintro r w2 ⟨v5, v6, v7, rfl, hS⟩
    have hb2 : Below w1.heap.size w1 w2 := hcut.trans (hS.bel.mono hcut.size)
    have hO2 : OwnE w2 B (.slice A own.length cap) own := hO1.below hb2
    have hB2 := hB0.below hb2 hlg
    have hE2 := hE.below hb2 hE.lt
    have hlg2 := hB2.lt
    have hel : w.heap.size < w2.heap.size := hE2.lt
    have hng : ∀ k, (Value.slice A own.length cap).ownBlock = some k → ¬ k = g := fun k hk q => own_blk_ne hO2 hB2 (by decide) (by rw [hk, q])
    have hng2 : ¬ w.heap.size = g := by omega
    have z0 : w2.cell? ⟨w.heap.size, 0, none⟩ = some (.string (bs e.key)) := hE2.cell 0
    have z1 : w2.cell? ⟨w.heap.size, 1, none⟩ = some (.string (bs e.value)) := hE2.cell 1
    have z2 : w2.cell? ⟨w.heap.size, 2, none⟩ = some (.int .u64 (e.seq : Nat)) := hE2.cell 2
    have z3 : w2.cell? ⟨w.heap.size, 3, none⟩ = some (.bool e.gone) := hE2.cell 3
    obtain ⟨A5, c5, rfl⟩ := hS.o5.form
    have hn5 : ((blocksK own).1.map outB).length = (blocksK own).1.length := List.length_map ..
    rw [hn5]
    replace hn5 := Lib.hid hn5
    replace hO2 := Lib.hid hO2
    replace hng := Lib.hid hng
    replace hng2 := Lib.hid hng2
    clear hblk hcut hO1' yc2 hlgc
    go_wp2_with fail
    refine wp_region_task3 (QJ w2 g n lv (.slice A own.length cap) own e) (tauL [some (.pointer (some ⟨g, 0, none⟩)), none, some (.pointer (some ⟨g, 0, none⟩)), some (.pointer (some ⟨g, 0, none⟩)), some (.pointer (some ⟨g, 2, none⟩)), some (.slice A own.length cap), none, some (.agg #[.string (bs e.key), .string (bs e.value), .int .u64 (e.seq : Nat), .bool e.gone]), none, none, some (.pointer (some ⟨g, 0, none⟩)), some (.pointer (some ⟨g, 2, none⟩)), none] tauN) (usL [u84, u85, u86, u87, u88, u89, u90, u91, u92, u93, u94, u95, undef]) ?m1 ?m2 ?m3 ?m4 (QJ.start hB2) ?m5 ?m6
    case m1 => kernel_rfl
    case m2 => kernel_rfl
    case m3 => kernel_rfl
    case m4 => kernel_rfl
    case m5 =>
      refine ⟨?o0, ?o1, ?o2, ?o3, ?o4, ?o5, ?o6, ?o7, ?o8, ?o9, ?o10, ?o11, ?o12, trivial⟩
      case o0 =>
        intro d us wx hd hJ hp hu hi
        refine .inl ⟨by kernel_rfl, fun K Q hK => ?_⟩
        simp only [putAll, Act.put, Nat.reduceAdd] at hK ⊢
        go_simp
        refine Eq.mp ?_ (hK (.pointer (some ⟨g, 0, none⟩)) _ (hJ.other 0 (by decide) (by decide) (by decide) (by decide) (by decide)) rfl (fun k u _ h => tauL_any k u h))
        kernel_rfl
      case o1 =>
        intro d us wx hd hJ hp hu hi
        have h9 := (hu 9 (by kernel_rfl)).1
        refine .inl ⟨by kernel_rfl, fun K Q hK => ?_⟩
        simp only [putAll, Act.put, Nat.reduceAdd] at hK ⊢
        go_simp
        refine Eq.mp ?_ (hK (.slice (some ⟨wx.heap.size, 0, none⟩) 0 0) (wx.alloc (.cells #[] 33)) (hJ.made h9) trivial (fun k u _ h => tauL_any k u h))
        kernel_rfl
      case o2 =>
        intro d us wx hd hJ hp hu hi
        refine .inl ⟨by kernel_rfl, fun K Q hK => ?_⟩
        simp only [putAll, Act.put, Nat.reduceAdd] at hK ⊢
        go_simp
        refine Eq.mp ?_ (hK (.pointer (some ⟨g, 0, none⟩)) _ (hJ.other 2 (by decide) (by decide) (by decide) (by decide) (by decide)) rfl (fun k u _ h => tauL_any k u h))
        kernel_rfl
      case o3 =>
        intro d us wx hd hJ hp hu hi
        have h2 : us 2 = _ := (hp 2 (by simp [Region.binds])).2
        refine .inl ⟨by kernel_rfl, fun K Q hK => ?_⟩
        simp only [putAll, Act.put, Nat.reduceAdd, h2] at hK ⊢
        go_simp
        refine Eq.mp ?_ (hK (.pointer (some ⟨g, 0, none⟩)) _ (hJ.other 3 (by decide) (by decide) (by decide) (by decide) (by decide)) rfl (fun k u _ h => tauL_any k u h))
        kernel_rfl
      case o4 =>
        intro d us wx hd hJ hp hu hi
        have h3 : us 3 = _ := (hp 3 (by simp [Region.binds])).2
        refine .inl ⟨by kernel_rfl, fun K Q hK => ?_⟩
        simp only [putAll, Act.put, Nat.reduceAdd, h3] at hK ⊢
        go_simp
        refine Eq.mp ?_ (hK (.pointer (some ⟨g, 2, none⟩)) _ (hJ.other 4 (by decide) (by decide) (by decide) (by decide) (by decide)) rfl (fun k u _ h => tauL_any k u h))
        kernel_rfl
      case o5 =>
        intro d us wx hd hJ hp hu hi
        have h4 : us 4 = _ := (hp 4 (by simp [Region.binds])).2
        have y := hJ.row0 (hu 12 (by kernel_rfl)).1
        refine .inl ⟨by kernel_rfl, fun K Q hK => ?_⟩
        simp only [putAll, Act.put, Nat.reduceAdd, h4] at hK ⊢
        go_simp
        refine Eq.mp ?_ (hK (.slice A own.length cap) _ (hJ.other 5 (by decide) (by decide) (by decide) (by decide) (by decide)) rfl (fun k u _ h => tauL_any k u h))
        kernel_rfl
      case o6 =>
        intro d us wx hd hJ hp hu hi
        have h5 : us 5 = _ := (hp 5 (by simp [Region.binds])).2
        have d1 := (hp 1 (by simp [Region.binds])).1
        have d9 := (hu 9 (by kernel_rfl)).1
        have d12 := (hu 12 (by kernel_rfl)).1
        have ho1 := hJ.b1 d1 hd
        have hrx := Reads.of_own (own_kept hO2.out hJ.kept hng.out)
        refine .inl ⟨by kernel_rfl, fun K Q hK => ?_⟩
        simp only [putAll, Act.put, Nat.reduceAdd, h5] at hK ⊢
        refine wp_append_any wx (.tmp 85) (.tmp 89) 41 rfl w2.heap.size 33 i0 _ 4 48 Tryd.underlying41 hi0 hz0 hz1 hz2 rfl (by omega) (us 1) 0 [] (by kernel_rfl) ho1 wx.heap.size A own.length cap (entsC own) (by kernel_rfl) hrx (one_ents own) (by unfold maxLen; omega) (by omega) hJ.kept.size ?_
        intro v1 w3 ho3 hg3 hat3
        rw [Nat.zero_add, List.nil_append] at ho3
        refine Eq.mp ?_ (hK v1 w3 (hJ.app6 hlg2 d1 hd d9 d12 ho3 hg3 hat3) trivial (fun k u _ h => tauL_any k u h))
        kernel_rfl
      case o7 =>
        intro d us wx hd hJ hp hu hi
        have y0 := (hJ.kept.cell ⟨w.heap.size, 0, none⟩ hel hng2.out).trans z0
        have y1 := (hJ.kept.cell ⟨w.heap.size, 1, none⟩ hel hng2.out).trans z1
        have y2 := (hJ.kept.cell ⟨w.heap.size, 2, none⟩ hel hng2.out).trans z2
        have y3 := (hJ.kept.cell ⟨w.heap.size, 3, none⟩ hel hng2.out).trans z3
        refine .inl ⟨by kernel_rfl, fun K Q hK => ?_⟩
        simp only [putAll, Act.put, Nat.reduceAdd] at hK ⊢
        go_simp
        refine Eq.mp ?_ (hK (.agg #[.string (bs e.key), .string (bs e.value), .int .u64 (e.seq : Nat), .bool e.gone]) _ (hJ.other 7 (by decide) (by decide) (by decide) (by decide) (by decide)) rfl (fun k u _ h => tauL_any k u h))
        kernel_rfl
      case o8 =>
        intro d us wx hd hJ hp hu hi
        have h7 : us 7 = _ := (hp 7 (by simp [Region.binds])).2
        have d9 := (hu 9 (by kernel_rfl)).1
        refine .inl ⟨by kernel_rfl, fun K Q hK => ?_⟩
        simp only [putAll, Act.put, Nat.reduceAdd, h7] at hK ⊢
        go_simp
        refine Eq.mp ?_ (hK (.slice (some ⟨wx.heap.size, 0, none⟩) 1 1) (wx.alloc (.cells (entC e) 33)) (hJ.boxed d9) trivial (fun k u _ h => tauL_any k u h))
        kernel_rfl
      case o9 =>
        intro d us wx hd hJ hp hu hi
        have d6 := (hp 6 (by simp [Region.binds])).1
        have d8 := (hp 8 (by simp [Region.binds])).1
        have d12 := (hu 12 (by kernel_rfl)).1
        have ho6 := hJ.b6 d6 hd
        obtain ⟨b, h8, hb8, hbk, _, _⟩ := hJ.b8 d8 hd
        have hrx := reads_ent hbk
        refine .inl ⟨by kernel_rfl, fun K Q hK => ?_⟩
        simp only [putAll, Act.put, Nat.reduceAdd, h8] at hK ⊢
        refine wp_append_any wx (.tmp 90) (.tmp 92) 41 rfl w2.heap.size 33 i0 _ 4 48 Tryd.underlying41 hi0 hz0 hz1 hz2 rfl (by omega) (us 6) own.length (entsC own) (by kernel_rfl) ho6 wx.heap.size (some ⟨b, 0, none⟩) 1 1 (entsC [e]) (by kernel_rfl) hrx (one_ents [e]) (by unfold maxLen; omega) (by omega) hJ.kept.size ?_
        intro v1 w3 ho3 hg3 hat3
        refine Eq.mp ?_ (hK v1 w3 (hJ.app9 hlg2 d6 hd d12 (OwnE.snoc e ho3) hg3) trivial (fun k u _ h => tauL_any k u h))
        kernel_rfl
      case o10 =>
        intro d us wx hd hJ hp hu hi
        have h0 : us 0 = _ := (hp 0 (by simp [Region.binds])).2
        refine .inl ⟨by kernel_rfl, fun K Q hK => ?_⟩
        simp only [putAll, Act.put, Nat.reduceAdd, h0] at hK ⊢
        go_simp
        refine Eq.mp ?_ (hK (.pointer (some ⟨g, 0, none⟩)) _ (hJ.other 10 (by decide) (by decide) (by decide) (by decide) (by decide)) rfl (fun k u _ h => tauL_any k u h))
        kernel_rfl
      case o11 =>
        intro d us wx hd hJ hp hu hi
        have h10 : us 10 = _ := (hp 10 (by simp [Region.binds])).2
        refine .inl ⟨by kernel_rfl, fun K Q hK => ?_⟩
        simp only [putAll, Act.put, Nat.reduceAdd, h10] at hK ⊢
        go_simp
        refine Eq.mp ?_ (hK (.pointer (some ⟨g, 2, none⟩)) _ (hJ.other 11 (by decide) (by decide) (by decide) (by decide) (by decide)) rfl (fun k u _ h => tauL_any k u h))
        kernel_rfl
      case o12 =>
        intro d us wx hd hJ hp hu hi
        have h11 : us 11 = _ := (hp 11 (by simp [Region.binds])).2
        have d9 := (hp 9 (by simp [Region.binds])).1
        have zl := hJ.blk.lt
        have zc := hJ.blk.cell 2
        have zf := hJ.blk.frozen 2
        obtain ⟨A9, c9, e9⟩ := (hJ.b9 d9).form
        rw [List.length_append, List.length_singleton] at e9
        refine .inl ⟨by kernel_rfl, fun K Q hK => ?_⟩
        simp only [putAll, Act.put, Nat.reduceAdd, h11, e9] at hK ⊢
        go_simp
        refine Eq.mp ?_ (hK (undef) (wx.setCell ⟨g, 2, none⟩ (.slice A9 (own.length + 1) c9)) (hJ.stored_ hlg2 d9 e9) trivial (fun k u _ h => tauL_any k u h))
        kernel_rfl
    intro d us wx hJ hall
    obtain ⟨hk, ho9, hbx⟩ := hJ.end_ (hall 9 (by simp)).1 (hall 12 (by simp)).1
    clear hJ hall
    simp only [putAll, Act.put, Nat.reduceAdd]
    generalize us 9 = v9 at *
    have hzx := hk.size
    have hO9 : OwnE wx w1.heap.size v9 (own ++ [e]) := own_mono ho9 hb2.size
    have hfin : DBAt wx B g n lv (own ++ [e]) false v9 := ⟨hBg, hbx, own_mono ho9 (by omega)⟩
    have hfr : ∀ k, v9.ownBlock = some k → w.heap.size ≤ k := fun k q => by have := (own_lt ho9 k q).1; omega
    have hKK : KeptBut w wx (fun k => k = g) := (KeptBut.of_below (hbe.trans (hb2.mono hbe.size))).trans hk (fun k _ q => q)
    obtain ⟨A9, c9, rfl⟩ := hO9.form
    have x2 : wx.cell? ⟨g, 2, none⟩ = some (.slice A9 (own ++ [e]).length c9) := hbx.cell 2
    have hcon := Lib.hid (hblk2.out wx A9 c9 hO9)
    have hlx2 := hbx.lt
    replace hfin := Lib.hid hfin
    replace hfr := Lib.hid hfr
    replace hKK := Lib.hid hKK
    generalize hln : (own ++ [e]).length = ln at *
    replace hln := Lib.hid hln
    clear hblk2 hO2 hng hng2 hE2 hB2 z0 z1 z2 z3 hO9 ho9 hk hS
    have hpc : pieceD own e = if (blocksK own).1.length < (blocksK (own ++ [e])).1.length then (((blocksK (own ++ [e])).1.map outB).getLast?).getD [] else [] := rfl
    have hbl2 : (blocksK (own ++ [e])).1.length ≤ 1000 := by have := (blocksK_rows (own ++ [e])).2; simp at this; omega
    generalize blocksK own = bk1 at *
    generalize blocksK (own ++ [e]) = bk2 at *
    obtain ⟨pc, hpe⟩ : ∃ pc, pieceD own e = pc := ⟨_, rfl⟩
    rw [hpe] at hpc
    replace hpe := Lib.hid hpe
    go_wp2_with fail
    refine hcon.out.mono ?_
    rintro r w4 ⟨v5', v6', v7', rfl, hS4⟩
    obtain ⟨A8, c8, rfl⟩ := hS4.o5.form
    have hn8 : (bk2.1.map outB).length = bk2.1.length := List.length_map ..
    have ho5 := hS4.o5
    have hb4 := hS4.bel
    rw [hn8] at ho5 ⊢
    replace hn8 := Lib.hid hn8
    have hfin4 := hfin.out.below hb4
    have hKK4 := hKK.out.then_below hb4
    by_cases hlt : bk1.1.length < bk2.1.length
    · have hlt' : ((bk1.1.length : Nat) : Int) < (bk2.1.length : Nat) := by omega
      rw [if_pos hlt] at hpc
      obtain ⟨x, hx⟩ : ∃ x, (bk2.1.map outB).getLast? = some x := by
        rcases hg : (bk2.1.map outB).getLast? with _ | x
        · have : bk2.1 = [] := by simpa using hg
          rw [this] at hlt
          simp at hlt
        · exact ⟨x, rfl⟩
      rw [hx] at hpc
      have hx2 : (bk2.1.map outB)[bk2.1.length - 1]? = some x := by rw [← hx, List.getLast?_eq_getElem?, hn8.out]
      have hcx : ((bk2.1.map outB).map strV)[bk2.1.length - 1]? = some (.string (bs x)) := by rw [List.getElem?_map, hx2]; rfl
      have hrd := Reads.of_own (show w4.ownsRow wx.heap.size 9 1 (.slice A8 bk2.1.length c8) bk2.1.length ((bk2.1.map outB).map strV) by have := hS4.o5; unfold OwnS at this; rw [hn8.out] at this; exact this)
      obtain ⟨ad, rfl, hadb, hcell⟩ := hrd.2 (by omega)
      have y := hcell _ _ hcx
      have hi7 : ((bk2.1.length : Nat) : Int) - 1 = ((bk2.1.length - 1 : Nat) : Int) := by omega
      have hi7' : bk2.1.length - 1 < bk2.1.length := by omega
      obtain ⟨bb, oo, rfl⟩ := plain_cell (hcell 0 (.string (bs (outB bk2.1[0]))) (by rw [List.getElem?_map, List.getElem?_map, List.getElem?_eq_getElem (by omega)]; rfl))
      rw [add_off] at y
      generalize bk2.1.length - 1 = lm at *
      replace hpc := Lib.hid hpc
      clear hcell hrd hcx hx2 hx ho5
      go_wp2_with fail
      go_ret2
      exact ⟨by rw [hpe.out, hpc.out]; rfl, _, hfin4, hfr.out, hKK4⟩
    · have hlt' : ¬ ((bk1.1.length : Nat) : Int) < (bk2.1.length : Nat) := by omega
      rw [if_neg hlt] at hpc
      replace hpc := Lib.hid hpc
      go_wp2_with fail
      go_ret2
      exact ⟨by rw [hpe.out, hpc.out]; rfl, _, hfin4, hfr.out, hKK4⟩
end Go.Proofs.YtfnlponoakhegaaDoor
