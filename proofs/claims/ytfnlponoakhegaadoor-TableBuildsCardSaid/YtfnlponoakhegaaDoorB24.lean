/- The document's row of an entry. The document's blocks: copyholdref12.Blocks. The document's bloom (copyholdref10): Hash, Probes. The document's bloom (copyholdref10): Make. The document's table, plain: what Whole tells. The document's builder, plain, beside mine. The document's table, plain, beside mine: what Finish tells. TableKnown: nil receivers; a builder that is done. Two builders side by side: mine, and the document's. -/
import Derived.Test.YtfnlponoakhegaaDoorB22
import Derived.Test.YtfnlponoakhegaaDoorRFJ
import Derived.Test.YtfnlponoakhegaaDoorB12
import Derived.Test.YtfnlponoakhegaaDoorTBOJ
import Derived.Deep.DeepCutAuto
import Derived.Test.YtfnlponoakhegaaDoorB20
namespace Go.Proofs.YtfnlponoakhegaaDoor
open Go.RowKit
set_option linter.unusedVariables false
set_option linter.unusedSimpArgs false
theorem row_set {w : World} {g t : Nat} {a b : Value} (h : Blk w g t #[a, b]) (r : L × L) : Blk ((w.setCell ⟨g, 0, none⟩ (.string (bs r.1))).setCell ⟨g, 1, none⟩ (.string (bs r.2))) g t (rowC r) := (h.set_ 0 _).set_ 1 _
theorem load_row {w : World} {g : Nat} {cs : Array Value} (h : Blk w g 136 cs) (hs : cs.size = 2) : (loadVar 136 ⟨g, 0, none⟩).run Tryd.prog w = .ok (.agg cs) w :=
  run_loadVar_row w g 136 136 cs (0, 0) _ h Tryd.underlying136 rfl (by rw [hs]; kernel_rfl)
theorem results_row1 {fn : Func} {p : Tmp} {ty : TypeId} (h : fn.results = #[.cell p ty]) (tmps : Array Value) (w : World) (g : Nat) (v : Value)
    (hp : tmps.getD p undef = .pointer (some ⟨g, 0, none⟩)) (hl : (loadVar ty ⟨g, 0, none⟩).run Tryd.prog w = .ok v w) : (results fn tmps).run Tryd.prog w = .ok v w := by
  have hp' : tmps[p]?.getD undef = .pointer (some ⟨g, 0, none⟩) := by simpa using hp
  simp only [results, h]
  simp [Sem.run_bind, Result.andThen, hp', asAddr, hl]
set_option maxRecDepth 100000 in
set_option maxHeartbeats 1000000 in
theorem Rrow_any (e : Ent) (w : World) (hk : e.key.length ≤ 1048576) (hv : e.value.length ≤ 1048576) (hq : e.seq < 18446744073709551616) (hg : e.gone = true → e.value = []) :
    Calls Tryd.prog 70 #[.agg (entC e)] w fun r w' => r = .returned (.agg (rowC (rowE e))) ∧ Below w.heap.size w w' := by
  have hin := Lib.hid fun W => RInternal_any e.key e.seq W hk hq
  have hE : Blk (w.alloc (.cells (entC e) 33)) w.heap.size 33 (entC e) := Blk.new _ _ _
  have hb1 : Below w.heap.size w (w.alloc (.cells (entC e) 33)) := (Below.refl _ _).alloc (Nat.le_refl _) _
  have hrow : rowE e = (internalL e.key e.seq, (if e.gone then [1] else [0]) ++ e.value) := by
    unfold rowE rowK rowV
    cases e.gone <;> rfl
  obtain ⟨ek, ev, eq, eg⟩ := e
  simp only at hk hv hq hg hin hrow
  unfold entC at hE hb1 ⊢
  simp only at hE hb1 ⊢
  obtain ⟨w1, hw1⟩ : ∃ w1, w.alloc (.cells #[.string (bs ek), .string (bs ev), .int .u64 (eq : Nat), .bool eg] 33) = w1 := ⟨_, rfl⟩
  rw [hw1] at hE hb1
  have hz1 : w1.heap.size = w.heap.size + 1 := by rw [← hw1, World.size_alloc]
  have hb2 := hb1.alloc hb1.size (.cells #[.string ⟨#[]⟩, .string ⟨#[]⟩] 136)
  have hR := Blk.new w1 136 #[.string ⟨#[]⟩, .string ⟨#[]⟩]
  have hE2 := hE.below ((Below.refl w1.heap.size w1).alloc (Nat.le_refl _) (.cells #[.string ⟨#[]⟩, .string ⟨#[]⟩] 136)) hE.lt
  obtain ⟨w2, hw2⟩ : ∃ w2, w1.alloc (.cells #[.string ⟨#[]⟩, .string ⟨#[]⟩] 136) = w2 := ⟨_, rfl⟩
  rw [hw2] at hb2 hR hE2
  have hl2 := hE2.lt
  have hl3 := hR.lt
  have z0 := hE2.cell 0
  have z1 := hE2.cell 1
  have z2 := hE2.cell 2
  have z3 := hE2.cell 3
  simp only [List.getElem?_toArray, List.getElem?_cons_zero, List.getElem?_cons_succ] at z0 z1 z2 z3
  have hge : w.heap.size ≤ w1.heap.size := by omega
  replace hz1 := Lib.hid hz1
  clear hE hb1
  cases eg
  · have hr2 : rowE ⟨ek, ev, eq, false⟩ = (internalL ek eq, 0 :: ev) := hrow
    have hsz : ¬ 9223372036854775807 < (⟨#[0]⟩ : ByteArray).size + (bs ev).size := by rw [bs_size]; show ¬ 9223372036854775807 < 1 + _; omega
    have hap : (⟨#[0]⟩ : ByteArray) ++ bs ev = bs (0 :: ev) := by rw [show (⟨#[0]⟩ : ByteArray) = bs [0] from rfl, bs_append]; rfl
    replace hrow := Lib.hid hrow
    replace hr2 := Lib.hid hr2
    go_enter Tryd.func70, Tryd.ntmps70
    go_wp2_with fail
    have hxc := @Ext.cell
    have hxf := @Ext.frozen
    refine wp_hide (fun Q0 hQ0 => ?_)
    refine wp_region_line (fun w' => ∃ x : Ext _, w' = x.w) [some false, some false, some false, some false, some false, some false, some false, some false, some false, none] 0 (by kernel_rfl) (by kernel_rfl) ⟨⟨_, (Below.refl _ _).drew⟩, rfl⟩ ?_
    simp only [earlyL, tailL]
    repeat (first | ((with_reducible refine wpMix_p ?_); go_big_quiet_step (fail); refine wpQuiet_nil ?_) | ((with_reducible refine wpMix_e ?_); go_big_quiet_step ((first | (go_at_call 19; exact Calls.ext (hin.out _)))); refine wpQuiet_nil ?_))
    refine wpMix_nil ?_
    clear hxc hxf
    intro wx hwx
    obtain ⟨x, hx⟩ := hwx
    have hb := x.below
    rw [← hx] at hb
    clear hx x
    have hRx := hR.below hb hl3
    have hbx := hb2.trans (hb.mono hb2.size)
    have x0 := hRx.cell 0
    have x1 := hRx.cell 1
    have f0 := hRx.frozen 0
    have f1 := hRx.frozen 1
    have xl := hRx.lt
    simp only [List.getElem?_toArray, List.getElem?_cons_zero, List.getElem?_cons_succ] at x0 x1
    have hfin := row_set hRx (internalL ek eq, 0 :: ev)
    replace hfin := Lib.hid hfin
    clear z0 z1 z2 z3
    refine wpTail_step ?_
    intro Q1 hQ1
    go_wp2_with (fail)
    refine hQ1 _ _ rfl (fun h => absurd h (by decide)) ?_
    clear hQ1 Q1
    refine wpTail_nil ?_
    refine hQ0 _ _ ?_
    clear hQ0 Q0
    go_wp2_with fail
    exact bodyPost_ret (v := .agg (rowC (internalL ek eq, 0 :: ev))) (results_row1 rfl _ _ w1.heap.size _ rfl (load_row hfin.out rfl)) rfl ⟨by rw [hr2.out], (hbx.setCell (p := ⟨w1.heap.size, 0, none⟩) hge _).setCell (p := ⟨w1.heap.size, 1, none⟩) hge _⟩
  · have hv0 := hg rfl
    subst hv0
    have hr2 : rowE ⟨ek, [], eq, true⟩ = (internalL ek eq, [1]) := hrow
    replace hrow := Lib.hid hrow
    replace hr2 := Lib.hid hr2
    go_enter Tryd.func70, Tryd.ntmps70
    go_wp2_with fail
    refine (hin.out _).mono ?_
    rintro e w3 ⟨rfl, hb3⟩
    have hRx := hR.below hb3 hl3
    have hbx := hb2.trans (hb3.mono hb2.size)
    have x0 := hRx.cell 0
    have x1 := hRx.cell 1
    have f0 := hRx.frozen 0
    have f1 := hRx.frozen 1
    have xl := hRx.lt
    simp only [List.getElem?_toArray, List.getElem?_cons_zero, List.getElem?_cons_succ] at x0 x1
    have hfin := row_set hRx (internalL ek eq, [1])
    replace hfin := Lib.hid hfin
    clear z0 z1 z2 z3
    go_wp2_with fail
    exact bodyPost_ret (v := .agg (rowC (internalL ek eq, [1]))) (results_row1 rfl _ _ w1.heap.size _ rfl (load_row hfin.out rfl)) rfl ⟨by rw [hr2.out], (hbx.setCell (p := ⟨w1.heap.size, 0, none⟩) hge _).setCell (p := ⟨w1.heap.size, 1, none⟩) hge _⟩
def stepK (a : List (List (L × L)) × List (L × L)) (e : Ent) : List (List (L × L)) × List (L × L) := if 256 ≤ (outB (a.2 ++ [rowE e])).length then (a.1 ++ [a.2 ++ [rowE e]], []) else (a.1, a.2 ++ [rowE e])
def blocksK (l : List Ent) : List (List (L × L)) × List (L × L) := l.foldl stepK ([], [])
theorem blocksK_snoc (l : List Ent) (e : Ent) : blocksK (l ++ [e]) = stepK (blocksK l) e := by unfold blocksK; rw [List.foldl_append]; rfl
theorem blocksK_rows (l : List Ent) : (blocksK l).1.flatten ++ (blocksK l).2 = l.map rowE ∧ (blocksK l).1.length + (blocksK l).2.length ≤ l.length := by
  induction l using snocRec with
  | nil => exact ⟨rfl, Nat.le_refl _⟩
  | snoc l e ih =>
    rw [blocksK_snoc, List.map_append, ← ih.1]
    unfold stepK
    split
    · constructor
      · simp
      · have := ih.2; simp; omega
    · constructor
      · simp
      · have := ih.2; simp; omega
def OwnR (w : World) (B : Nat) (v : Value) (l : List (L × L)) : Prop := w.ownsRow B 136 2 v l.length (rowsC l)
theorem OwnR.form {w : World} {B : Nat} {v : Value} {l : List (L × L)} (h : OwnR w B v l) : ∃ A cap, v = .slice A l.length cap := by
  rcases h.2 with ⟨rfl, e⟩ | ⟨g, cap, cur, rfl, _⟩
  · exact ⟨none, 0, by rw [e]⟩
  · exact ⟨_, cap, rfl⟩
theorem OwnR.snoc {w : World} {B : Nat} {v : Value} {l : List (L × L)} (r : L × L) (h : w.ownsRow B 136 2 v (l.length + 1) (rowsC l ++ [.string (bs r.1), .string (bs r.2)])) : OwnR w B v (l ++ [r]) := by
  unfold OwnR
  rw [rowsC_app, rowsC_one, List.length_append]
  exact h
theorem OwnR.below {w w' : World} {B : Nat} {v : Value} {l : List (L × L)} (h : OwnR w B v l) (hb : Below w.heap.size w w') : OwnR w' B v l := own_block h (fun k hk => hb.block k (own_lt h k hk).2)
theorem OwnS.below {w w' : World} {B : Nat} {v : Value} {l : List L} (h : OwnS w B v l) (hb : Below w.heap.size w w') : OwnS w' B v l := own_block h (fun k hk => hb.block k (own_lt h k hk).2)
theorem row_info : (Tryd.prog.info? 136).map (fun i => (i.zero, i.size, i.bytes)) = some (some (.agg #[.string ⟨#[]⟩, .string ⟨#[]⟩]), 2, 32) := by kernel_rfl
theorem reads2 (w : World) (t : TypeId) (x y : Value) : Reads (w.alloc (.cells #[x, y] t)) (w.heap.size + 1) 2 (some ⟨w.heap.size, 0, none⟩) 1 [x, y] := by
  refine ⟨rfl, fun _ => ⟨_, rfl, by simp, fun j v hv => ?_⟩⟩
  rw [add_off, Nat.zero_add, (Blk.new w t #[x, y]).cell j]
  simpa using hv
structure BSt (w wr : World) (v5 v6 v7 : Value) (s5 s6 : List L) (cur : List (L × L)) : Prop where
  o5 : OwnS wr w.heap.size v5 s5
  o6 : OwnS wr w.heap.size v6 s6
  o7 : OwnR wr w.heap.size v7 cur
  n : ∀ k, v5.ownBlock = some k → v6.ownBlock ≠ some k
  bel : Below w.heap.size w wr
section
variable {w wr w' : World} {v5 v6 v7 v' : Value} {s5 s6 : List L} {cur cur' : List (L × L)} {ob : Obj} {x : L}
theorem BSt.below (h : BSt w wr v5 v6 v7 s5 s6 cur) (hb : Below wr.heap.size wr w') : BSt w w' v5 v6 v7 s5 s6 cur := ⟨h.o5.below hb, h.o6.below hb, h.o7.below hb, h.n, h.bel.trans (hb.mono h.bel.size)⟩
theorem grow_kept (hg : (wr.alloc ob).grownBy w' v7.ownBlock) : KeptBut wr w' (fun k => v7.ownBlock = some k) := (KeptBut.of_below ((Below.refl _ _).alloc (Nat.le_refl _) ob)).then_grown hg (fun k e => e)
theorem BSt.s7 (h : BSt w wr v5 v6 v7 s5 s6 cur) (hg : (wr.alloc ob).grownBy w' v7.ownBlock) (ho : OwnR w' w.heap.size v' cur') : BSt w w' v5 v6 v' s5 s6 cur' := by
  have hk := grow_kept hg
  exact ⟨own_kept h.o5 hk (fun k e1 e2 => own_types h.o5 h.o7 (by decide) k e1 e2), own_kept h.o6 hk (fun k e1 e2 => own_types h.o6 h.o7 (by decide) k e1 e2), ho, h.n, hk.below_of h.bel (fun k e => (own_lt h.o7 k e).1)⟩
theorem BSt.s7n (h : BSt w wr v5 v6 v7 s5 s6 cur) : BSt w wr v5 v6 (.slice none 0 0) s5 s6 [] := ⟨h.o5, h.o6, World.ownsRow_nil _ _ _ 2, h.n, h.bel⟩
theorem BSt.s5_ {s5' : List L} (h : BSt w wr v5 v6 v7 s5 s6 cur) (hg : (wr.alloc ob).grownBy w' v5.ownBlock) (ho : OwnS w' w.heap.size v' s5') (hat : v'.ownBlock = v5.ownBlock ∨ v'.ownBlock = some (wr.heap.size + 1)) : BSt w w' v' v6 v7 s5' s6 cur := by
  have hk := grow_kept hg
  refine ⟨ho, own_kept h.o6 hk (fun k e1 e2 => h.n k e2 e1), own_kept h.o7 hk (fun k e1 e2 => own_types h.o7 h.o5 (by decide) k e1 e2), fun k e1 e2 => ?_, hk.below_of h.bel (fun k e => (own_lt h.o5 k e).1)⟩
  rcases hat with e | e
  · exact h.n k (by rw [← e]; exact e1) e2
  · rw [e] at e1
    injection e1 with e1
    have := (own_lt h.o6 k e2).2
    omega
theorem BSt.s6_ {s6' : List L} (h : BSt w wr v5 v6 v7 s5 s6 cur) (hg : (wr.alloc ob).grownBy w' v6.ownBlock) (ho : OwnS w' w.heap.size v' s6') (hat : v'.ownBlock = v6.ownBlock ∨ v'.ownBlock = some (wr.heap.size + 1)) : BSt w w' v5 v' v7 s5 s6' cur := by
  have hk := grow_kept hg
  refine ⟨own_kept h.o5 hk (fun k e1 e2 => h.n k e1 e2), ho, own_kept h.o7 hk (fun k e1 e2 => own_types h.o7 h.o6 (by decide) k e1 e2), fun k e1 e2 => ?_, hk.below_of h.bel (fun k e => (own_lt h.o6 k e).1)⟩
  rcases hat with e | e
  · exact h.n k e1 (by rw [← e]; exact e2)
  · rw [e] at e2
    injection e2 with e2
    have := (own_lt h.o5 k e1).2
    omega
end
theorem rowE_small {e : Ent} (hk : e.key.length ≤ 64) (hv : e.value.length ≤ 512) : (rowE e).1.length ≤ 1048576 ∧ (rowE e).2.length ≤ 1048576 := by
  have h1 := rowK_len hk
  have h2 := rowV_le2 hv
  unfold rowE
  simp only
  omega
set_option maxRecDepth 100000 in
set_option maxHeartbeats 4000000 in
theorem RBlocks_any (A : Option Addr) (l : List Ent) (cap : Nat) (w : World) (hr : Reads w w.heap.size 4 A l.length (entsC l)) (hl : l.length ≤ 1000) (hs : ∀ e ∈ l, e.key.length ≤ 64 ∧ e.value.length ≤ 512 ∧ e.seq < 18446744073709551616 ∧ (e.gone = true → e.value = [])) :
    Calls Tryd.prog 50 #[.slice A l.length cap] w fun e w' => ∃ v5 v6 v7, e = .returned (.tuple #[v5, v6, v7]) ∧ BSt w w' v5 v6 v7 ((blocksK l).1.map outB) ((blocksK l).1.map lastK) (blocksK l).2 := by
  obtain ⟨i0, hi0, hz0, hz1, hz2⟩ := info_parts row_info
  obtain ⟨j0, hj0, hy0, hy1, hy2⟩ := info_parts string_info
  go_enter Tryd.func50, Tryd.ntmps50
  go_wp2_with fail
  go_loopw [5, 6, 7, 8] (fun v5 v6 v7 iv wr => ∃ i, i ≤ l.length ∧ iv = .int .i64 (i : Nat) ∧ BSt w wr v5 v6 v7 ((blocksK (l.take i)).1.map outB) ((blocksK (l.take i)).1.map lastK) (blocksK (l.take i)).2) (fun _ _ _ iv _ => l.length - (intOf iv).toNat)
  case atStart => exact ⟨0, Nat.zero_le _, rfl, World.ownsRow_nil _ _ _ 1, World.ownsRow_nil _ _ _ 1, World.ownsRow_nil _ _ _ 2, fun k e => (by cases e), Below.refl _ _⟩
  case round =>
    obtain ⟨i, hi, rfl, hSt⟩ := hrel
    have hbr := hSt.bel
    have hzr := hbr.size
    obtain ⟨A5, c5, rfl⟩ := hSt.o5.form
    obtain ⟨A6, c6, rfl⟩ := hSt.o6.form
    obtain ⟨A7, c7, rfl⟩ := hSt.o7.form
    by_cases hil : i < l.length
    · have hil' : ((i : Nat) : Int) < (l.length : Nat) := by omega
      have hx := List.getElem?_eq_getElem hil
      have hsn : blocksK (l.take (i + 1)) = stepK (blocksK (l.take i)) l[i] := by rw [List.take_succ_eq_append_getElem hil, blocksK_snoc]
      obtain ⟨hb1, hb2⟩ := blocksK_rows (l.take i)
      rw [List.length_take] at hb2
      have hcr : ∀ r ∈ (blocksK (l.take i)).2, r.1.length ≤ 1048576 ∧ r.2.length ≤ 1048576 := by
        intro r hrm
        have : r ∈ (l.take i).map rowE := by rw [← hb1]; exact List.mem_append_right _ hrm
        obtain ⟨e, he, rfl⟩ := List.mem_map.1 this
        have := hs e (List.mem_of_mem_take he)
        exact rowE_small this.1 this.2.1
      obtain ⟨s1, s2, s3, s4⟩ := hs _ (List.getElem_mem hil)
      obtain ⟨ad, rfl, hab, acell⟩ := (hr.below hbr).2 (by omega)
      obtain ⟨bb, oo, rfl⟩ := plain_cell (acell 0 _ (entsC_at l 0 l[0] (List.getElem?_eq_getElem (by omega))).1)
      obtain ⟨q0, q1, q2, q3⟩ := entsC_at l i _ hx
      replace q0 := acell _ _ q0
      replace q1 := acell _ _ q1
      replace q2 := acell _ _ q2
      replace q3 := acell _ _ q3
      rw [add_off] at q0 q1 q2 q3
      rw [← Nat.add_assoc] at q1 q2 q3
      clear acell hb1
      replace hx := Lib.hid hx
      generalize l[i] = eo at *
      generalize blocksK (l.take i) = bk at *
      obtain ⟨bls, cur⟩ := bk
      simp only at hSt hb2 hcr
      have hsm := rowE_small s1 s2
      have hrow := Rrow_any eo wr (by omega) (by omega) s3 s4
      unfold entC at hrow
      unfold stepK at hsn
      simp only at hsn
      generalize rowE eo = ro at *
      replace hrow := Lib.hid hrow
      replace hsn := Lib.hid hsn
      have hlen1 : (List.map outB bls).length = bls.length := List.length_map ..
      have hlen2 : (List.map lastK bls).length = bls.length := List.length_map ..
      rw [hlen1, hlen2] at hSt
      replace hlen1 := Lib.hid hlen1
      replace hlen2 := Lib.hid hlen2
      go_wp2_with fail
      refine hrow.out.mono ?_
      rintro e w1 ⟨rfl, hb1⟩
      unfold rowC
      have hzw1 := hb1.size
      have hSt1 := hSt.below hb1
      clear hSt
      have ho7 := Lib.hid (hSt1.o7.below ((Below.refl w1.heap.size w1).alloc (Nat.le_refl _) (.cells #[.string (bs ro.1), .string (bs ro.2)] 136)))
      go_wp2_with (at_builtin; refine wpList_append_any _ rfl (.tmp 15) (.tmp 21) 103 rfl w.heap.size 136 i0 _ 2 32 Tryd.underlying103 hi0 hz0 hz1 hz2 rfl (by omega) (.slice A7 cur.length c7) cur.length (rowsC cur) rfl ho7.out (w1.heap.size + 1) (some ⟨w1.heap.size, 0, none⟩) 1 1 _ rfl (reads2 w1 _ _ _) (fun u hu => by simp at hu; rcases hu with rfl | rfl <;> rfl) (by unfold maxLen; omega) (by omega) (by rw [World.size_alloc]; omega) ?_)
      intro v7' w7 ho7' hg7 hat7
      have hO7 := OwnR.snoc ro ho7'
      obtain ⟨A8, c8, rfl⟩ := hO7.form
      have hSt7 := hSt1.s7 hg7 hO7
      have hz7 := hSt7.bel.size
      clear hSt1 ho7 ho7' hg7 hat7
      have hcr7 : ∀ r ∈ cur ++ [ro], r.1.length ≤ 1048576 ∧ r.2.length ≤ 1048576 := by
        intro r hrm
        rcases List.mem_append.1 hrm with h | h
        · exact hcr r h
        · rw [List.mem_singleton.1 h]; exact hsm
      have hcl : (cur ++ [ro]).length ≤ 1000 := by rw [List.length_append, List.length_singleton]; omega
      have hcp : 0 < (cur ++ [ro]).length := by rw [List.length_append]; exact Nat.succ_pos _
      have hcur : bls.length + (cur ++ [ro]).length ≤ 1001 := by rw [List.length_append, List.length_singleton]; omega
      have hlast : (cur ++ [ro])[(cur ++ [ro]).length - 1]? = some ro := by simp
      have hlk : lastK (cur ++ [ro]) = ro.1 := by unfold lastK; simp
      generalize cur ++ [ro] = nc at *
      have hby := Lib.hid fun W hW => RBytes_any A8 nc c8 W hW (by omega) hcr7
      replace hlast := Lib.hid hlast
      replace hlk := Lib.hid hlk
      have hr7 := Lib.hid (Reads.of_own hO7)
      go_wp2_with fail
      refine (hby.out w7 hr7.out).mono ?_
      rintro e w8 ⟨rfl, hb8⟩
      have hSt8 := hSt7.below hb8
      have hz8 := hSt8.bel.size
      clear hSt7
      by_cases h256 : 256 ≤ (outB nc).length
      · have h256' : (256 : Int) ≤ (bs (outB nc)).size := by rw [bs_size]; omega
        replace hsn := hsn.out
        rw [if_pos h256] at hsn
        replace hsn := Lib.hid hsn
        have hr8 := Lib.hid (Reads.of_own hSt8.o7)
        go_wp2_with fail
        refine (hby.out w8 hr8.out).mono ?_
        rintro e w9 ⟨rfl, hb9⟩
        have hSt9 := hSt8.below hb9
        have hz9 := hSt9.bel.size
        clear hSt8
        have ho5 := Lib.hid (hSt9.o5.below ((Below.refl w9.heap.size w9).alloc (Nat.le_refl _) (.cells #[.string (bs (outB nc))] 9)))
        unfold OwnS at ho5
        rw [List.length_map] at ho5
        have hone := Lib.hid (show ∀ u ∈ [Value.string (bs (outB nc))], u.oneCell' = true from fun u hu => by simp at hu; subst hu; rfl)
        go_wp2_with (at_builtin; refine wpList_append_any _ rfl (.tmp 27) (.tmp 30) 65 rfl w.heap.size 9 j0 (.string ⟨#[]⟩) 1 16 Tryd.underlying65 hj0 hy0 hy1 hy2 rfl (by omega) (.slice A5 bls.length c5) bls.length ((bls.map outB).map strV) rfl ho5.out (w9.heap.size + 1) (some ⟨w9.heap.size, 0, none⟩) 1 1 _ rfl (new_str w9 _ _) hone.out (by unfold maxLen; omega) (by omega) (by rw [World.size_alloc]; omega) ?_)
        intro v5' w10 ho5' hg10 hat10
        have hO5 : OwnS w10 w.heap.size v5' (bls.map outB ++ [outB nc]) := OwnS.of_law (by simpa [strV] using ho5')
        obtain ⟨A9, c9, e9⟩ := hO5.form
        rw [List.length_append, List.length_singleton, List.length_map] at e9
        subst e9
        have hStA := hSt9.s5_ hg10 hO5 hat10
        have hzA := hStA.bel.size
        clear hSt9 hO5 ho5' ho5 hg10 hat10 hone
        obtain ⟨ad7, rfl, ha7, ac7⟩ := (Reads.of_own hStA.o7).2 hcp
        have q7 := ac7 _ _ (rowsC_at nc _ ro hlast.out).1
        obtain ⟨b7, o7, rfl⟩ := plain_cell (ac7 0 _ (rowsC_at nc 0 nc[0] (List.getElem?_eq_getElem (by omega))).1)
        rw [add_off] at q7
        clear ac7
        have hi7 : ((nc.length : Nat) : Int) - 1 = ((nc.length - 1 : Nat) : Int) := by omega
        have hi7' : nc.length - 1 < nc.length := by omega
        generalize hln : nc.length - 1 = ln at *
        replace hln := Lib.hid hln
        replace hlast := 0
        have ho6 := Lib.hid (hStA.o6.below ((Below.refl w10.heap.size w10).alloc (Nat.le_refl _) (.cells #[.string (bs ro.1)] 9)))
        unfold OwnS at ho6
        rw [List.length_map] at ho6
        have hone := Lib.hid (show ∀ u ∈ [Value.string (bs ro.1)], u.oneCell' = true from fun u hu => by simp at hu; subst hu; rfl)
        go_wp2_with (at_builtin; refine wpList_append_any _ rfl (.tmp 32) (.tmp 40) 65 rfl w.heap.size 9 j0 (.string ⟨#[]⟩) 1 16 Tryd.underlying65 hj0 hy0 hy1 hy2 rfl (by omega) (.slice A6 bls.length c6) bls.length ((bls.map lastK).map strV) rfl ho6.out (w10.heap.size + 1) (some ⟨w10.heap.size, 0, none⟩) 1 1 _ rfl (new_str w10 _ _) hone.out (by unfold maxLen; omega) (by omega) (by rw [World.size_alloc]; omega) ?_)
        intro v6' w11 ho6' hg11 hat11
        have hO6 : OwnS w11 w.heap.size v6' (bls.map lastK ++ [ro.1]) := OwnS.of_law (by simpa [strV] using ho6')
        obtain ⟨A10, c10, e10⟩ := hO6.form
        rw [List.length_append, List.length_singleton, List.length_map] at e10
        subst e10
        have hStB := (hStA.s6_ hg11 hO6 hat11).s7n
        clear hStA hO6 ho6' ho6 hg11 hat11 hone
        go_wp2_with fail
        refine ⟨⟨i + 1, by omega, by go_num, ?_⟩, by first | omega | (simp only [intOf]; omega)⟩
        rw [hsn.out]
        simp only [List.map_append, List.map_cons, List.map_nil, hlk.out]
        exact hStB
      · have h256' : ¬ (256 : Int) ≤ (bs (outB nc)).size := by rw [bs_size]; omega
        replace hsn := hsn.out
        rw [if_neg h256] at hsn
        replace hsn := Lib.hid hsn
        go_wp2_with fail
        refine ⟨⟨i + 1, by omega, by go_num, ?_⟩, by first | omega | (simp only [intOf]; omega)⟩
        rw [hsn.out]
        exact hSt8
    · obtain rfl : i = l.length := by omega
      have hil' : ¬ ((l.length : Nat) : Int) < (l.length : Nat) := by omega
      rw [List.take_length] at hSt
      have hlen1 : (List.map outB (blocksK l).1).length = (blocksK l).1.length := List.length_map ..
      have hlen2 : (List.map lastK (blocksK l).1).length = (blocksK l).1.length := List.length_map ..
      rw [hlen1, hlen2] at hSt
      go_wp2_with fail
      go_ret3
      exact ⟨_, _, _, rfl, hSt⟩
theorem stepOf_if (h : Nat) : stepOf h = if h / 4294967296 % 2 = 0 then h / 4294967296 + 1 else h / 4294967296 := by
  unfold stepOf
  generalize h / 4294967296 = x
  rw [show x ||| 1 = 2 * (x / 2) + 1 from ?_]
  · split <;> omega
  · refine Nat.eq_of_testBit_eq fun i => ?_
    rw [Nat.testBit_or]
    rcases i with _ | i
    · simp [Nat.testBit_zero]
    · rw [Nat.testBit_succ, Nat.testBit_succ, Nat.testBit_succ, show (2 * (x / 2) + 1) / 2 = x / 2 by omega, show 1 / 2 = 0 by rfl, Nat.zero_testBit, Bool.or_false]
set_option maxRecDepth 100000 in
set_option maxHeartbeats 2000000 in
theorem RHash_any (s : L) (w : World) (hs : s.length ≤ 1099511627776) :
    Calls Tryd.prog 93 #[.string (bs s)] w fun e w' => e = .returned (.int .u64 (hashL s : Nat)) ∧ Below w.heap.size w w' := by
  have hss : (bs s).size = s.length := bs_size _
  obtain ⟨w0, hw0⟩ : ∃ w0, w0 = w := ⟨_, rfl⟩
  rw [← hw0]
  clear hw0 w
  go_enter Tryd.func93, Tryd.ntmps93
  go_wp2_with fail
  go_loopw [3, 4] (fun rv iv wr => ∃ i, i ≤ s.length ∧ iv = .int .i64 (i : Nat) ∧ rv = .int .u64 ((s.take i).foldl hashStep 14695981039346656037 : Nat) ∧ wr = w0) (fun _ iv _ => s.length - (intOf iv).toNat)
  case atStart => exact ⟨0, Nat.zero_le _, rfl, rfl, rfl⟩
  case round =>
    obtain ⟨i, hi, rfl, rfl, hw⟩ := hrel
    subst hw
    by_cases hil : i < s.length
    · have hil' : ((i : Nat) : Int) < (s.length : Nat) := by omega
      have hsn : (s.take (i + 1)).foldl hashStep 14695981039346656037 = hashStep ((s.take i).foldl hashStep 14695981039346656037) s[i] := by
        rw [List.take_succ_eq_append_getElem hil, List.foldl_append, List.foldl_cons, List.foldl_nil]
      have hlt2 : (s.take i).foldl hashStep 14695981039346656037 < 18446744073709551616 := hashF_lt _ (by decide)
      have hix : ((bs s)[i]'(by rw [hss]; exact hil)) = s[i] := by simp [bs, ByteArray.getElem_eq_getElem_data]
      have hib : ((i : Nat) : Int) < ((bs s).size : Nat) := by rw [hss]; exact hil'
      have hcl := (s[i]).toNat_lt
      generalize hc : s[i] = c at *
      replace hc := Lib.hid hc
      generalize (s.take i).foldl hashStep 14695981039346656037 = x0 at *
      have k1 : bits .xor .u64 (x0 : Int) (c.toNat : Nat) = ((x0 ^^^ c.toNat : Nat) : Int) := u64_xor_nat _ _ hlt2 (by omega)
      have kw : IntKind.u64.wrap (((x0 ^^^ c.toNat : Nat) : Int) * 1099511628211) = ((hashStep x0 c : Nat) : Int) := by
        rw [IntKind.wrap_u64]
        unfold hashStep
        omega
      replace hlt2 := Lib.hid hlt2
      replace hsn := Lib.hid hsn
      replace kw := Lib.hid kw
      go_wp2_with fail
      refine ⟨⟨i + 1, by omega, by go_num, congrArg (Value.int .u64) ?_, trivial⟩, by first | omega | (simp only [intOf]; omega)⟩
      rw [kw.out, hsn.out]
    · obtain rfl : i = s.length := by omega
      have hil' : ¬ ((s.length : Nat) : Int) < (s.length : Nat) := by omega
      have hR : (s.take s.length).foldl hashStep 14695981039346656037 = hashL s := by rw [List.take_length]; rfl
      rw [hR]
      go_wp2_with fail
      go_ret
      exact ⟨rfl, Below.refl _ _⟩
set_option maxRecDepth 100000 in
set_option maxHeartbeats 4000000 in
theorem RProbes_any (s : L) (m : Nat) (w : World) (hs : s.length ≤ 1099511627776) (hm0 : 0 < m) (hm : m ≤ 1099511627776) :
    Calls Tryd.prog 86 #[.string (bs s), .int .u64 (m : Nat)] w fun e w' => ∃ v, e = .returned v ∧ OwnI w' w.heap.size v (probesL s m) ∧ Below w.heap.size w w' := by
  obtain ⟨j0, hj0, hy0, hy1, hy2⟩ := info_parts int_info
  have hh := Lib.hid (RHash_any s w hs)
  have hlt := hashL_lt s
  have hpl : probesL s m = (List.range 6).map (probeL (hashL s) m) := rfl
  generalize hashL s = h at *
  have hst := stepOf_if h
  have hp : ∀ i, probeL h m i = ((h % 4294967296 + i * stepOf h) % 4294967296) % m := fun _ => rfl
  have hdiv : (h : Int) / 4294967296 = ((h / 4294967296 : Nat) : Int) := by omega
  have hmod : (h : Int) % 4294967296 = ((h % 4294967296 : Nat) : Int) := by omega
  have hhi : h / 4294967296 < 4294967296 := by omega
  have hlo : h % 4294967296 < 4294967296 := by omega
  generalize stepOf h = st at *
  generalize probeL h m = f at *
  generalize h % 4294967296 = a0 at *
  generalize h / 4294967296 = h2 at *
  replace hp := Lib.hid hp
  replace hpl := Lib.hid hpl
  have hstl : st < 4294967297 := by rw [hst]; split <;> omega
  replace hst := Lib.hid hst
  go_enter Tryd.func86, Tryd.ntmps86
  go_wp2_with fail
  refine hh.out.mono ?_
  rintro e w1 ⟨rfl, hb1⟩
  clear hh
  by_cases hpar : h2 % 2 = 0
  · have hpar' : ((h2 : Nat) : Int) % 2 = 0 := by omega
    have hs2 : ((h2 : Nat) : Int) + 1 = ((st : Nat) : Int) := by rw [hst.out, if_pos hpar]; rfl
    replace hs2 := Lib.hid hs2
    go_wp2_with fail
    rw [hs2.out, hmod]
    clear hs2 hst hpar hpar' hdiv hmod
    go_loopw [8, 9] (fun v8 iv wr => ∃ i : Nat, i ≤ 6 ∧ iv = .int .u64 (i : Nat) ∧ OwnI wr w.heap.size v8 ((List.range i).map f) ∧ Below w.heap.size w wr) (fun _ iv _ => 6 - (intOf iv).toNat)
    case atStart => exact ⟨0, Nat.zero_le _, rfl, World.ownsRow_nil _ _ _ 1, hb1⟩
    case round =>
      obtain ⟨i, hi, rfl, hO, hbr⟩ := hrel
      have hzr := hbr.size
      obtain ⟨A8, c8, rfl⟩ := hO.form
      by_cases hl6 : i < 6
      · have hl6' : (i : Int) < 6 := by omega
        have hpi := hp.out i
        have hln : ((List.range i).map f).length = i := by simp
        have hsn : (List.range (i + 1)).map f = (List.range i).map f ++ [f i] := by rw [List.range_succ, List.map_append]; rfl
        have hpl1 : i * st ≤ 5 * st := Nat.mul_le_mul_right _ (by omega)
        have hpl2 : ((i : Nat) : Int) * ((st : Nat) : Int) = ((i * st : Nat) : Int) := by simp
        generalize i * st = p at *
        have hw1 : ((a0 : Int) + p) % 4294967296 = (((a0 + p) % 4294967296 : Nat) : Int) := by omega
        have hw2 : (((a0 + p) % 4294967296 : Nat) : Int) % (m : Int) = ((f i : Nat) : Int) := by rw [hpi]; omega
        have hfm : f i < m := by rw [hpi]; exact Nat.mod_lt _ hm0
        generalize (a0 + p) % 4294967296 = q at *
        have ho8 := World.ownsRow.alloc hO (.cells #[.int .i64 (f i : Nat)] 3)
        have hrd2 := new_int wr (f i : Nat) 3
        have hBx : w.heap.size ≤ (wr.alloc (.cells #[.int .i64 (f i : Nat)] 3)).heap.size := by rw [World.size_alloc]; omega
        clear hO
        rw [hln] at ho8 ⊢
        have hone : ∀ u ∈ [Value.int .i64 (f i : Nat)], u.oneCell' = true := fun u hu => by simp at hu; subst hu; rfl
        generalize (List.range i).map f = dn at *
        replace hln := Lib.hid hln
        replace hpi := Lib.hid hpi
        replace hsn := Lib.hid hsn
        replace hone := Lib.hid hone
        have hwi : IntKind.i64.wrap ((f i : Nat) : Int) = (f i : Nat) := by rw [IntKind.wrap_i64]; omega
        go_wp2_with (at_builtin; refine wpList_append_any _ rfl (.tmp 25) (.tmp 35) 116 rfl w.heap.size 3 j0 (.int .i64 0) 1 8 Tryd.underlying116 hj0 hy0 hy1 hy2 rfl (by omega) (.slice A8 i c8) i (dn.map fun n => Value.int .i64 (n : Nat)) rfl ho8 (wr.heap.size + 1) (some ⟨wr.heap.size, 0, none⟩) 1 1 [.int .i64 (f i : Nat)] rfl hrd2 hone.out (by unfold maxLen; omega) (by omega) hBx ?_)
        intro v2 w2 hown2 hgr2 hat2
        go_wp2_with fail
        refine ⟨⟨i + 1, by omega, by go_num, ?_, ?_⟩, by first | omega | (simp only [intOf]; omega)⟩
        · rw [hsn.out]
          exact OwnI.of_law hown2
        · exact (hbr.alloc hzr _).grown hgr2 hBx (fun k hk => (own_lt ho8 k hk).1)
      · obtain rfl : i = 6 := by omega
        go_wp2_with fail
        go_ret
        refine ⟨_, rfl, ?_, hbr⟩
        rw [hpl.out]
        exact hO
  · have hpar' : ((h2 : Nat) : Int) % 2 = 1 := by omega
    have hs2 : h2 = st := by rw [hst.out, if_neg hpar]
    replace hs2 := Lib.hid hs2
    go_wp2_with fail
    rw [hs2.out, hmod]
    clear hs2 hst hpar hpar' hdiv hmod
    go_loopw [8, 9] (fun v8 iv wr => ∃ i : Nat, i ≤ 6 ∧ iv = .int .u64 (i : Nat) ∧ OwnI wr w.heap.size v8 ((List.range i).map f) ∧ Below w.heap.size w wr) (fun _ iv _ => 6 - (intOf iv).toNat)
    case atStart => exact ⟨0, Nat.zero_le _, rfl, World.ownsRow_nil _ _ _ 1, hb1⟩
    case round =>
      obtain ⟨i, hi, rfl, hO, hbr⟩ := hrel
      have hzr := hbr.size
      obtain ⟨A8, c8, rfl⟩ := hO.form
      by_cases hl6 : i < 6
      · have hl6' : (i : Int) < 6 := by omega
        have hpi := hp.out i
        have hln : ((List.range i).map f).length = i := by simp
        have hsn : (List.range (i + 1)).map f = (List.range i).map f ++ [f i] := by rw [List.range_succ, List.map_append]; rfl
        have hpl1 : i * st ≤ 5 * st := Nat.mul_le_mul_right _ (by omega)
        have hpl2 : ((i : Nat) : Int) * ((st : Nat) : Int) = ((i * st : Nat) : Int) := by simp
        generalize i * st = p at *
        have hw1 : ((a0 : Int) + p) % 4294967296 = (((a0 + p) % 4294967296 : Nat) : Int) := by omega
        have hw2 : (((a0 + p) % 4294967296 : Nat) : Int) % (m : Int) = ((f i : Nat) : Int) := by rw [hpi]; omega
        have hfm : f i < m := by rw [hpi]; exact Nat.mod_lt _ hm0
        generalize (a0 + p) % 4294967296 = q at *
        have ho8 := World.ownsRow.alloc hO (.cells #[.int .i64 (f i : Nat)] 3)
        have hrd2 := new_int wr (f i : Nat) 3
        have hBx : w.heap.size ≤ (wr.alloc (.cells #[.int .i64 (f i : Nat)] 3)).heap.size := by rw [World.size_alloc]; omega
        clear hO
        rw [hln] at ho8 ⊢
        have hone : ∀ u ∈ [Value.int .i64 (f i : Nat)], u.oneCell' = true := fun u hu => by simp at hu; subst hu; rfl
        generalize (List.range i).map f = dn at *
        replace hln := Lib.hid hln
        replace hpi := Lib.hid hpi
        replace hsn := Lib.hid hsn
        replace hone := Lib.hid hone
        have hwi : IntKind.i64.wrap ((f i : Nat) : Int) = (f i : Nat) := by rw [IntKind.wrap_i64]; omega
        go_wp2_with (at_builtin; refine wpList_append_any _ rfl (.tmp 25) (.tmp 35) 116 rfl w.heap.size 3 j0 (.int .i64 0) 1 8 Tryd.underlying116 hj0 hy0 hy1 hy2 rfl (by omega) (.slice A8 i c8) i (dn.map fun n => Value.int .i64 (n : Nat)) rfl ho8 (wr.heap.size + 1) (some ⟨wr.heap.size, 0, none⟩) 1 1 [.int .i64 (f i : Nat)] rfl hrd2 hone.out (by unfold maxLen; omega) (by omega) hBx ?_)
        intro v2 w2 hown2 hgr2 hat2
        go_wp2_with fail
        refine ⟨⟨i + 1, by omega, by go_num, ?_, ?_⟩, by first | omega | (simp only [intOf]; omega)⟩
        · rw [hsn.out]
          exact OwnI.of_law hown2
        · exact (hbr.alloc hzr _).grown hgr2 hBx (fun k hk => (own_lt ho8 k hk).1)
      · obtain rfl : i = 6 := by omega
        go_wp2_with fail
        go_ret
        refine ⟨_, rfl, ?_, hbr⟩
        rw [hpl.out]
        exact hO
/-- A filter's bits. -/
def rowOf (b : L) : List Bool := (List.range (8 * b.length)).map (bitAt b)
theorem rowOf_len (b : L) : (rowOf b).length = 8 * b.length := by simp [rowOf]
theorem rowOf_at (b : L) (m : Nat) (h : m < 8 * b.length) : (rowOf b)[m]? = some (bitAt b m) := by simp [rowOf, h]
theorem rowOf_set (b : L) (n : Nat) (h : n < 8 * b.length) : rowOf (setBit b n) = (rowOf b).set n true := by
  apply List.ext_getElem?
  intro m
  by_cases hm : m < 8 * b.length
  · rw [rowOf_at _ _ (by rw [setBit_len]; exact hm), setBit_bit b n m (by omega), List.getElem?_set, rowOf_at _ _ hm]
    by_cases he : n = m
    · subst he; rw [if_pos rfl, rowOf_len, if_pos h]; simp
    · rw [if_neg he]; simp [he]
  · rw [List.getElem?_eq_none (by rw [rowOf_len, setBit_len]; omega), List.getElem?_eq_none (by rw [List.length_set, rowOf_len]; omega)]
theorem rowOf_zero (n : Nat) : rowOf (List.replicate n 0) = List.replicate (8 * n) false := by
  apply List.ext_getElem?
  intro m
  by_cases hm : m < 8 * n
  · rw [rowOf_at _ _ (by simpa using hm), List.getElem?_replicate, if_pos hm]
    unfold bitAt
    rw [List.getD_eq_getElem?_getD, List.getElem?_replicate, if_pos (by omega)]
    simp
  · rw [List.getElem?_eq_none (by rw [rowOf_len]; simp; omega), List.getElem?_eq_none (by simp; omega)]
def FBo (w : World) (g : Nat) (l : List Bool) : Prop := Blk w g 4 (l.map Value.bool).toArray
theorem FBo.set {w : World} {g : Nat} {l : List Bool} (h : FBo w g l) (i : Nat) (c : Bool) : FBo (w.setCell ⟨g, i, none⟩ (.bool c)) g (l.set i c) := by
  have := Blk.set_ h i (.bool c)
  unfold FBo
  rw [List.map_set]
  simpa using this
theorem FBo.cell {w : World} {g : Nat} {l : List Bool} {c : Bool} (h : FBo w g l) (i : Nat) (hi : l[i]? = some c) : w.cell? ⟨g, i, none⟩ = some (.bool c) := by
  refine (Blk.cell h i).trans ?_
  rw [List.getElem?_toArray, List.getElem?_map, hi]
  rfl
theorem bool_info : (Tryd.prog.info? 4).map (fun i => (i.zero, i.size, i.bytes)) = some (some (.bool false), 1, 1) := by kernel_rfl
theorem made_false (n : Nat) : madeCells (Value.bool false).cells (n * 1) = ((List.replicate n false).map Value.bool).toArray := by
  rw [Nat.mul_one]
  apply Array.ext
  · simp [madeCells]
  · intro i h1 h2
    simp [madeCells, Value.cells, Nat.mod_one] at h1 ⊢
theorem make_bools (w : World) (n : Nat) (hn : n ≤ 2147483648) : (Instr.makeSlice 152 (.int .i64 (n : Nat)) (.int .i64 (n : Nat))).run Tryd.prog w = .ok (.slice (some ⟨w.heap.size, 0, none⟩) n n) (w.alloc (.cells ((List.replicate n false).map Value.bool).toArray 4)) := by
  obtain ⟨i0, hi0, hz0, hz1, hz2⟩ := info_parts bool_info
  have := run_make (P := Tryd.prog) w 152 4 i0 (.bool false) Tryd.underlying152 hi0 hz0 .i64 .i64 (n : Nat) (n : Nat) (by omega) (Int.le_refl _) (by rw [hz2]; omega) (by omega)
  rw [hz1, Int.toNat_natCast, made_false] at this
  exact this
set_option maxRecDepth 100000 in
set_option maxHeartbeats 4000000 in
theorem RMake_any (A : Option Addr) (ss : List L) (cap : Nat) (w : World) (hr : Reads w w.heap.size 1 A ss.length (ss.map strV)) (hlen : ss.length ≤ 1048576) (hs : ∀ s ∈ ss, s.length ≤ 1048576) :
    Calls Tryd.prog 73 #[.slice A ss.length cap] w fun e w' => e = .returned (.string (bs (filterL ss))) ∧ Below w.heap.size w w' := by
  obtain ⟨i0, hi0, hz0, hz1, hz2⟩ := info_parts u8_info
  have hnp := filterN_pos ss.length
  have hnb : filterN ss.length ≤ 1342177288 := by unfold filterN; omega
  have hnb2 : filterN ss.length ≤ 2000000 := by unfold filterN; omega
  have hfl : filterL ss = ss.foldl addKey (List.replicate (filterN ss.length) 0) := rfl
  have hmx : max (10 * ss.length) 64 ≤ 8 * filterN ss.length ∧ 8 * filterN ss.length < max (10 * ss.length) 64 + 8 := by unfold filterN; omega
  generalize filterN ss.length = n at *
  obtain ⟨M, hM⟩ : ∃ M, M = 8 * n := ⟨_, rfl⟩
  rw [← hM] at hmx
  have hMb : M ≤ 2147483648 := by omega
  have hM8 : M % 8 = 0 := by omega
  have hM0 : 64 ≤ M := by omega
  replace hr := Lib.hid hr
  replace hs := Lib.hid hs
  replace hfl := Lib.hid hfl
  replace hM := Lib.hid hM
  obtain ⟨X, hX⟩ : ∃ X, X = max (10 * ss.length) 64 := ⟨_, rfl⟩
  rw [← hX] at hmx
  replace hX := Lib.hid hX
  obtain ⟨hx1, hx2⟩ := hmx
  go_enter Tryd.func73, Tryd.ntmps73
  go_upto_if 16 with fail
  go_cut [3] (fun bv wz => bv = .int .i64 (X : Nat) ∧ wz = w)
  case first =>
    by_cases h64 : (10 : Int) * ((ss.length : Nat) : Int) < 64
    · go_wp2_with fail
      go_meet
      case rel =>
        refine ⟨?_, rfl⟩
        have := hX.out
        exact congrArg (Value.int .i64) (by omega)
    · go_wp2_with fail
      go_meet
      case rel =>
        refine ⟨?_, rfl⟩
        have := hX.out
        exact congrArg (Value.int .i64) (by omega)
  case rest =>
    obtain ⟨rfl, rfl⟩ := hcut
    go_wp2_with fail
    go_loopw [3] (fun bv wr => ∃ b : Nat, bv = .int .i64 (b : Nat) ∧ X ≤ b ∧ b ≤ M ∧ wr = wc) (fun bv _ => M - (intOf bv).toNat)
    case atStart => exact ⟨X, rfl, Nat.le_refl _, hx1, rfl⟩
    case round =>
      obtain ⟨b, rfl, hb1, hb2, rfl⟩ := hrel
      by_cases hb8 : b % 8 = 0
      · obtain rfl : M = b := by omega
        have hb8' : ((M : Nat) : Int) % 8 = 0 := by omega
        generalize hwb : wr = wb at *
        replace hwb := Lib.hid hwb
        have hmk := make_bools wb M hMb
        obtain ⟨z0, hz⟩ : ∃ z, z = ((List.replicate M false).map Value.bool).toArray := ⟨_, rfl⟩
        rw [← hz] at hmk
        replace hz := Lib.hid hz
        go_wp2_with fail
        have hF0 : FBo (wb.alloc (.cells z0 4)) wb.heap.size (rowOf (List.replicate n 0)) := by rw [rowOf_zero, ← hM.out]; unfold FBo; rw [hz.out]; exact Blk.new _ _ _
        have hB0 : Below wb.heap.size wb (wb.alloc (.cells z0 4)) := (Below.refl _ _).alloc (Nat.le_refl _) _
        have hl0 : wb.heap.size < (wb.alloc (.cells z0 4)).heap.size := by rw [World.size_alloc]; omega
        clear hmk
        generalize wb.alloc (.cells z0 4) = W0 at *
        clear hb1 hb2 hx1 hx2 hX hb8 hb8'
        go_loopw [5] (fun iv wr => ∃ i : Nat, i ≤ ss.length ∧ iv = .int .i64 (i : Nat) ∧ FBo wr wb.heap.size (rowOf ((ss.take i).foldl addKey (List.replicate n 0))) ∧ Below wb.heap.size wb wr) (fun iv _ => ss.length - (intOf iv).toNat)
        case atStart => exact ⟨0, Nat.zero_le _, rfl, hF0, hB0⟩
        case round =>
          obtain ⟨i, hi, rfl, hF, hbr⟩ := hrel
          have hzr := hbr.size
          have hll : ((ss.take i).foldl addKey (List.replicate n 0)).length = n := by rw [foldl_addKey_len, List.length_replicate]
          by_cases hlt : i < ss.length
          · have hlt' : (i : Int) < ss.length := by omega
            have hsi : ss[i]? = some ss[i] := List.getElem?_eq_getElem hlt
            have hsz := hs.out _ (List.getElem_mem hlt)
            obtain ⟨ad, u, rfl, hadB, hu, hcell⟩ := hr.out.at_ hlt
            rw [List.getElem?_map, hsi] at hu
            injection hu with hu
            subst hu
            have htk : (ss.take (i + 1)).foldl addKey (List.replicate n 0) = addKey ((ss.take i).foldl addKey (List.replicate n 0)) ss[i] := by
              rw [List.take_add_one, hsi, List.foldl_append]
              rfl
            generalize (ss.take i).foldl addKey (List.replicate n 0) = b0 at *
            generalize ss[i] = s at *
            obtain ⟨ad0, u0, e0, _, _, hc0⟩ := hr.out.at_ (k := 0) (by omega)
            injection e0 with e0
            subst e0
            obtain ⟨bb, oo, rfl⟩ := plain_cell hc0
            clear hc0
            rw [add_off] at hcell
            have hbl : bb < wb.heap.size := hadB
            have q0 := (hbr.cell (p := ⟨bb, oo + i, none⟩) hadB).trans hcell
            unfold strV at q0
            have hpr := RProbes_any s M wr (by omega) (by omega) (by omega)
            have hpl : (probesL s M).length = 6 := by simp [probesL]
            have hplt := probesL_lt (key := s) (m := M) (by omega)
            have hadd : addKey b0 s = (probesL s M).foldl setBit b0 := by unfold addKey; rw [hll, hM.out]
            rw [hadd] at htk
            generalize probesL s M = ps at *
            have hwM : IntKind.u64.wrap ((M : Nat) : Int) = (M : Nat) := by rw [IntKind.wrap_u64]; omega
            replace hpr := Lib.hid hpr
            replace htk := Lib.hid htk
            replace hsi := Lib.hid hsi
            replace hll := Lib.hid hll
            replace hpl := Lib.hid hpl
            replace hplt := Lib.hid hplt
            clear hadd hcell
            go_wp2_with fail
            refine hpr.out.mono ?_
            rintro e w1 ⟨vp, rfl, hOp, hb1⟩
            clear hpr
            obtain ⟨A6, c6, rfl⟩ := hOp.form
            rw [hpl.out]
            have hF1 : FBo w1 wb.heap.size (rowOf b0) := Blk.below hF hb1 (Blk.lt hF)
            have hbw1 := hbr.trans (hb1.mono hzr)
            have hzo := Blk.lt hF
            go_wp2_with fail
            generalize wr = wo at *
            go_loopw [7] (fun jv wr => ∃ j : Nat, j ≤ 6 ∧ jv = .int .i64 (j : Nat) ∧ FBo wr wb.heap.size (rowOf ((ps.take j).foldl setBit b0)) ∧ OwnI wr wo.heap.size (.slice A6 ps.length c6) ps ∧ Below wb.heap.size wb wr) (fun jv _ => 6 - (intOf jv).toNat)
            case atStart => exact ⟨0, Nat.zero_le _, rfl, hF1, hOp, hbw1⟩
            case round =>
              obtain ⟨j, hj, rfl, hFq, hOq, hbq⟩ := hrel
              have hlq : ((ps.take j).foldl setBit b0).length = n := by rw [foldl_set_len]; exact hll.out
              by_cases hl6 : j < 6
              · have hl6' : (j : Int) < 6 := by omega
                have hjp : j < ps.length := by rw [hpl.out]; exact hl6
                have hsn : (ps.take (j + 1)).foldl setBit b0 = setBit ((ps.take j).foldl setBit b0) ps[j] := by
                  rw [List.take_succ_eq_append_getElem hjp, List.foldl_append]
                  rfl
                have hgj := hplt.out _ (List.getElem_mem hjp)
                obtain ⟨a6, rfl, hab6, ac6⟩ := (Reads.of_own hOq).2 (by omega)
                have z6 := ac6 j (.int .i64 ((ps[j] : Nat) : Int)) (by rw [List.getElem?_map, List.getElem?_eq_getElem hjp]; rfl)
                obtain ⟨b6, o6, rfl⟩ := plain_cell (ac6 0 (.int .i64 ((ps[0] : Nat) : Int)) (by rw [List.getElem?_map, List.getElem?_eq_getElem (by omega)]; rfl))
                rw [add_off] at z6
                clear ac6
                generalize (ps.take j).foldl setBit b0 = b1 at *
                generalize ps[j] = g at *
                have hrs := rowOf_set b1 g (by rw [hlq, ← hM.out]; exact hgj)
                have hrl := rowOf_len b1
                have zf := Blk.frozen hFq g
                have zl := Blk.lt hFq
                have z := FBo.cell hFq g (rowOf_at b1 g (by rw [hlq, ← hM.out]; exact hgj))
                have hgj' : ((g : Nat) : Int) < (M : Nat) := by omega
                have hFs := FBo.set hFq g true
                have hOs := own_kept hOq ((KeptBut.refl wr (fun k => k = wb.heap.size)).then_set (b := wb.heap.size) (o := g) (v := .bool true) rfl) (fun k hk e => by have := (own_lt hOq k hk).1; omega)
                replace hrl := Lib.hid hrl
                replace hrs := Lib.hid hrs
                replace hFs := Lib.hid hFs
                replace hOs := Lib.hid hOs
                replace hsn := Lib.hid hsn
                replace hlq := Lib.hid hlq
                go_wp2_with fail
                refine ⟨⟨j + 1, by omega, by go_num, ?_, hOs.out, hbq.setCell (Nat.le_refl _) _⟩, by first | omega | (simp only [intOf]; omega)⟩
                rw [hsn.out, hrs.out]
                exact hFs.out
              · obtain rfl : j = 6 := by omega
                go_wp2_with fail
                refine ⟨⟨i + 1, by omega, by rfl, ?_, hbq⟩, by first | omega | (simp only [intOf]; omega)⟩
                rw [htk.out]
                rw [List.take_of_length_le (by rw [hpl.out]; exact Nat.le_refl _)] at hFq
                exact hFq
          · obtain rfl : i = ss.length := by omega
            have hlt' : ¬ (ss.length : Int) < ss.length := by omega
            rw [List.take_length, ← hfl.out] at hF hll
            generalize hfe : filterL ss = fl at *
            replace hfe := Lib.hid hfe
            go_wp2_with fail
            generalize wr = wo at *
            go_loopw [8, 9] (fun bv iv wr => ∃ j : Nat, j ≤ n ∧ iv = .int .i64 ((8 * j : Nat) : Int) ∧ OwnB wr wb.heap.size bv (fl.take j) ∧ FBo wr wb.heap.size (rowOf fl) ∧ Below wb.heap.size wb wr) (fun _ iv _ => M - (intOf iv).toNat)
            case atStart => exact ⟨0, Nat.zero_le _, rfl, OwnB.nil _ _, hF, hbr⟩
            case round =>
              obtain ⟨j, hj, rfl, hO, hFr, hbj⟩ := hrel
              have hzj := hbj.size
              obtain ⟨A8, c8, rfl⟩ := hO.form
              have htl : (fl.take j).length = j := by rw [List.length_take, hll]; omega
              by_cases hjn : j < n
              · have hMM := hM.out
                have hjn' : ((8 * j : Nat) : Int) < (M : Nat) := by omega
                have hjl : j < fl.length := by rw [hll]; exact hjn
                have hsn : fl.take (j + 1) = fl.take j ++ [fl[j]] := List.take_succ_eq_append_getElem hjl
                have hbit : ∀ k, k < 8 → wr.cell? ⟨wb.heap.size, 8 * j + k, none⟩ = some (.bool ((fl[j]).toNat / 2 ^ k % 2 == 1)) := by
                  intro k hk
                  rw [FBo.cell hFr (8 * j + k) (rowOf_at fl (8 * j + k) (by rw [hll]; omega))]
                  unfold bitAt
                  rw [show (8 * j + k) / 8 = j by omega, show (8 * j + k) % 8 = k by omega, List.getD_eq_getElem?_getD, List.getElem?_eq_getElem hjl]
                  rfl
                rw [htl]
                have hxl := (fl[j]).toNat_lt
                have hlB := Blk.lt hFr
                generalize hxe : fl[j] = x at *
                replace hxe := Lib.hid hxe
                have h8 : (x.toNat) / 2 ^ 8 = 0 := Nat.div_eq_of_lt hxl
                replace hbit := Lib.hid hbit
                replace hsn := Lib.hid hsn
                replace htl := Lib.hid htl
                replace hO := Lib.hid hO
                replace hll := Lib.hid hll
                clear hMM
                go_wp2_with fail
                generalize wr = wk at *
                go_loopw [10, 11] (fun cv kv wr => ∃ k : Nat, k ≤ 8 ∧ kv = .int .i64 (((k : Nat) : Int) - 1) ∧ cv = .int .u8 ((x.toNat / 2 ^ k : Nat) : Int) ∧ wr = wk) (fun _ kv _ => (intOf kv + 1).toNat)
                case atStart => exact ⟨8, Nat.le_refl _, rfl, by rw [h8]; rfl, rfl⟩
                case round =>
                  obtain ⟨k, hk, rfl, rfl, hwk⟩ := hrel
                  subst hwk
                  by_cases hk0 : 1 ≤ k
                  · obtain ⟨k, rfl⟩ : ∃ q, k = q + 1 := ⟨k - 1, by omega⟩
                    have hk0' : (0 : Int) ≤ ((k + 1 : Nat) : Int) - 1 := by omega
                    have hb := hbit.out k (by omega)
                    have hd : x.toNat / 2 ^ k = 2 * (x.toNat / 2 ^ (k + 1)) + x.toNat / 2 ^ k % 2 := by
                      rw [Nat.pow_succ, ← Nat.div_div_eq_div_mul]
                      omega
                    have hle : x.toNat / 2 ^ k ≤ x.toNat := Nat.div_le_self _ _
                    generalize x.toNat / 2 ^ (k + 1) = c at *
                    generalize hc2 : x.toNat / 2 ^ k = c2 at *
                    replace hc2 := Lib.hid hc2
                    have hc : 2 * c + 1 < 256 := by omega
                    rw [show (((k + 1 : Nat) : Nat) : Int) - 1 = ((k : Nat) : Int) by omega]
                    have hk9 : ((8 * j + k : Nat) : Int) < (M : Nat) := by omega
                    by_cases hp : c2 % 2 = 1
                    · have hpb : (c2 % 2 == 1) = true := by rw [hp]; rfl
                      rw [hpb] at hb
                      have hd2 : c2 = 2 * c + 1 := by omega
                      clear hd hle hp hpb hbit
                      replace hd2 := Lib.hid hd2
                      go_wp2_with fail
                      refine ⟨⟨k, by omega, rfl, ?_, trivial⟩, by first | omega | (simp only [intOf]; omega)⟩
                      rw [hc2.out, hd2.out]
                      exact congrArg (Value.int .u8) (by omega)
                    · have hpb : (c2 % 2 == 1) = false := by simpa using hp
                      rw [hpb] at hb
                      have hd2 : c2 = 2 * c := by omega
                      clear hd hle hp hpb hbit
                      replace hd2 := Lib.hid hd2
                      go_wp2_with fail
                      refine ⟨⟨k, by omega, rfl, ?_, trivial⟩, by first | omega | (simp only [intOf]; omega)⟩
                      rw [hc2.out, hd2.out]
                      exact congrArg (Value.int .u8) (by omega)
                  · obtain rfl : k = 0 := by omega
                    rw [show x.toNat / 2 ^ 0 = x.toNat by simp]
                    have hOx := hO.out.alloc (.cells #[.int .u8 ((x.toNat : Nat) : Int)] 5)
                    unfold OwnB at hOx
                    rw [htl.out] at hOx
                    have hone : ∀ u ∈ [B8 x], u.oneCell' = true := fun u hu => by simp at hu; subst hu; rfl
                    have hBx : wb.heap.size ≤ (wr.alloc (.cells #[.int .u8 ((x.toNat : Nat) : Int)] 5)).heap.size := by rw [World.size_alloc]; omega
                    have hnb8 := new_byte wr _ x 5 rfl
                    replace hone := Lib.hid hone
                    go_wp2_with (at_builtin; refine wpList_append_any _ rfl (.tmp 68) (.tmp 70) 34 rfl wb.heap.size 5 i0 (.int .u8 0) 1 1 Tryd.underlying34 hi0 hz0 hz1 hz2 rfl (by omega) (.slice A8 j c8) j ((fl.take j).map B8) rfl hOx (wr.heap.size + 1) (some ⟨wr.heap.size, 0, none⟩) 1 1 [B8 x] rfl hnb8 hone.out (by unfold maxLen; omega) (by omega) hBx ?_)
                    intro v2 w2 ho2 hg2 hat2
                    have hbw2 := (hbj.alloc hzj _).grown hg2 hBx (fun k hk => (own_lt hOx k hk).1)
                    have hk2 : KeptBut wr w2 (fun k => (Value.slice A8 j c8).ownBlock = some k) := (KeptBut.of_below ((Below.refl _ _).alloc (Nat.le_refl _) _)).then_grown hg2 (fun k e => e)
                    have hF2 : FBo w2 wb.heap.size (rowOf fl) := Blk.keptB hFr hk2 (fun e => own_blk_ne hOx (Blk.alloc hFr _) (by decide) e)
                    rw [← List.map_take] at ho2
                    have hO2 : OwnB w2 wb.heap.size v2 (fl.take j ++ [x]) := OwnB.of_law ho2
                    go_wp2_with fail
                    refine ⟨⟨j + 1, by omega, ?_, by rw [hsn.out]; exact hO2, hF2, hbw2⟩, ?_⟩
                    · exact congrArg (Value.int .i64) (by omega)
                    · have := hM.out
                      simp only [intOf]
                      omega
              · obtain rfl : j = n := by omega
                have hMM := hM.out
                have hjn' : ¬ ((8 * j : Nat) : Int) < (M : Nat) := by omega
                rw [List.take_of_length_le (by omega)] at hO
                have htx := hO.text
                rw [hll] at htx
                rw [List.take_of_length_le (by omega), hll]
                go_wp2_with fail
                go_ret
                rw [hwb.out, hfe.out]
                exact ⟨rfl, hbj⟩
      · have hb8' : ¬ ((b : Nat) : Int) % 8 = 0 := by omega
        go_wp2_with fail
        refine ⟨⟨b + 1, by go_num, by omega, by omega, trivial⟩, by first | omega | (simp only [intOf]; omega)⟩
def allK (l : List Ent) : List (List (L × L)) := (blocksK l).1 ++ (if (blocksK l).2 = [] then [] else [(blocksK l).2])
def stepY (a : List L × Option L) (e : Ent) : List L × Option L := (if a.2 = some e.key then a.1 else a.1 ++ [e.key], some e.key)
def keysK (l : List Ent) : List L := (l.foldl stepY ([], none)).1
theorem keysK_last (l : List Ent) : (l.foldl stepY ([], none)).2 = l.getLast?.map (·.key) := by
  induction l using snocRec with
  | nil => rfl
  | snoc l e ih => rw [List.foldl_append, List.foldl_cons, List.foldl_nil]; simp [stepY]
theorem keysK_snoc (l : List Ent) (e : Ent) : keysK (l ++ [e]) = if l.getLast?.map (·.key) = some e.key then keysK l else keysK l ++ [e.key] := by
  unfold keysK
  rw [List.foldl_append, List.foldl_cons, List.foldl_nil, ← keysK_last]
  rfl
theorem keysK_len (l : List Ent) : (keysK l).length ≤ l.length := by
  induction l using snocRec with
  | nil => exact Nat.le_refl _
  | snoc l e ih =>
    rw [keysK_snoc]
    split
    · simp; omega
    · simp; omega
theorem keysK_mem {l : List Ent} {P : L → Prop} (h : ∀ e ∈ l, P e.key) : ∀ k ∈ keysK l, P k := by
  induction l using snocRec with
  | nil => intro k hk; cases hk
  | snoc l e ih =>
    have ih' := ih (fun x hx => h x (List.mem_append_left _ hx))
    rw [keysK_snoc]
    intro k hk
    split at hk
    · exact ih' k hk
    · rcases List.mem_append.1 hk with hk | hk
      · exact ih' k hk
      · rw [List.mem_singleton.1 hk]; exact h e (by simp)
def wholeA (l : List Ent) : L := outs (allK l) ++ filterL (keysK l) ++ outB (ixOf 0 (allK l)) ++ bigL (outs (allK l)).length 4 ++ bigL ((outs (allK l)).length + (filterL (keysK l)).length) 4 ++ bigL l.length 4
def wholeK (l : List Ent) : L := wholeA l ++ bigL (crcL (wholeA l)) 4
theorem outB_len_le {b : List (L × L)} {M : Nat} (h : ∀ r ∈ b, r.1.length + r.2.length ≤ M) : (outB b).length ≤ (M + 31) * b.length + 4 := by
  unfold outB
  rw [BB.out_len]
  unfold BB.size
  have h1 : (foldB b).b.length + 4 * (foldB b).starts.length ≤ (M + 31) * b.length := by
    induction b using snocRec with
    | nil => simp [foldB, BB.new]
    | snoc es e ih =>
      have h1 := ih (fun r hr => h r (List.mem_append_left _ hr))
      have h2 := h e (by simp)
      have h3 := BB.enc_len (foldB es) e.1 e.2
      rw [foldB_snoc]
      unfold BB.put
      have h4 : (es ++ [e]).length = es.length + 1 := by simp
      rw [h4, Nat.mul_add]
      simp only [List.length_append]
      split
      · simp only [List.length_append, List.length_singleton]; omega
      · omega
  omega
theorem outs_len_le {bls : List (List (L × L))} {M : Nat} (h : ∀ b ∈ bls, ∀ r ∈ b, r.1.length + r.2.length ≤ M) : (outs bls).length ≤ (M + 31) * bls.flatten.length + 4 * bls.length := by
  induction bls with
  | nil => exact Nat.le_refl _
  | cons b bls ih =>
    have h1 := ih (fun c hc => h c (List.mem_cons_of_mem _ hc))
    have h2 := outB_len_le (h b (List.mem_cons_self ..))
    rw [outs_cons, List.flatten_cons, List.length_append, List.length_append, List.length_cons, Nat.mul_add]
    omega
theorem allK_facts (l : List Ent) (hl : l.length ≤ 1000) (hs : ∀ e ∈ l, e.key.length ≤ 64 ∧ e.value.length ≤ 512) :
    (allK l).length ≤ l.length ∧ (allK l).flatten = l.map rowE ∧ (∀ b ∈ allK l, ∀ r ∈ b, r.1.length ≤ 139 ∧ r.2.length ≤ 513) := by
  obtain ⟨h1, h2⟩ := blocksK_rows l
  unfold allK
  generalize blocksK l = bk at *
  obtain ⟨bls, cur⟩ := bk
  simp only at h1 h2 ⊢
  have h3 : ∀ r ∈ l.map rowE, r.1.length ≤ 139 ∧ r.2.length ≤ 513 := by
    intro r hr
    obtain ⟨e, he, rfl⟩ := List.mem_map.1 hr
    exact ⟨rowK_len (hs e he).1, rowV_le2 (hs e he).2⟩
  by_cases hc : cur = []
  · subst hc
    rw [if_pos rfl, List.append_nil]
    rw [List.append_nil] at h1
    refine ⟨by simpa using h2, h1, fun b hb r hr => h3 r ?_⟩
    rw [← h1]
    exact List.mem_flatten.2 ⟨b, hb, hr⟩
  · rw [if_neg hc]
    have hp : 0 < cur.length := List.length_pos_iff.2 hc
    refine ⟨by simp; omega, by simpa using h1, fun b hb r hr => h3 r ?_⟩
    rw [← h1]
    rcases List.mem_append.1 hb with hb | hb
    · exact List.mem_append_left _ (List.mem_flatten.2 ⟨b, hb, hr⟩)
    · rw [List.mem_singleton.1 hb] at hr
      exact List.mem_append_right _ hr
theorem lastK_small {b : List (L × L)} {M : Nat} (h : ∀ r ∈ b, r.1.length ≤ M) : (lastK b).length ≤ M := by
  by_cases hb : b = []
  · subst hb; exact Nat.zero_le _
  · obtain ⟨x, hx, e⟩ := lastK_mem hb
    rw [← e]
    exact h x hx
theorem ixOf_small : ∀ (bls : List (List (L × L))) (a : Nat), (∀ b ∈ bls, ∀ r ∈ b, r.1.length ≤ 139) → ∀ r ∈ ixOf a bls, r.1.length ≤ 139 ∧ r.2.length ≤ 18
  | [], a, h, r, hr => by cases hr
  | b :: t, a, h, r, hr => by
    simp only [ixOf] at hr
    rcases List.mem_cons.1 hr with hr | hr
    · subst hr
      exact ⟨lastK_small (h b (List.mem_cons_self ..)), varL_two _ _⟩
    · exact ixOf_small t _ (fun c hc => h c (List.mem_cons_of_mem _ hc)) r hr
/-- A builder's run, with what the document's builder keeps of it. -/
structure RunK (n : Nat) (lv : Int) (own : List Ent) (s : TB) (out : L) (bls : List (List (L × L))) (cur : List (L × L)) : Prop where
  run : RunI n lv own s out bls cur
  blk : blocksK own = (bls, cur)
  key : keysK own = s.keys
theorem RunK.new (n : Nat) (lv : Int) : RunK n lv [] (TB.new n lv) [] [] [] := ⟨RunI.new n lv, rfl, rfl⟩
theorem outB_size (b : List (L × L)) : (outB b).length = (foldB b).size := BB.out_len _
section
variable {n : Nat} {lv : Int} {own : List Ent} {s : TB} {out : L} {bls : List (List (L × L))} {cur : List (L × L)}
theorem RunK.step (h : RunK n lv own s out bls cur) (hs : (foldB cur).size < 256) {e : Ent} (he : s.err e = 0) :
    ∃ bls' cur', RunK n lv (own ++ [e]) (s.add e).1 (out ++ (s.add e).2) bls' cur' ∧ (foldB cur').size < 256 ∧
      (bls' = bls ∧ (s.add e).2 = [] ∨ ∃ b, bls' = bls ++ [b] ∧ (s.add e).2 = outB b) := by
  have hp := h.run.put hs he
  obtain ⟨e1, e2, e3, e4, e5, e6, e7, e8⟩ := err_zero he
  have hk : keysK (own ++ [e]) = (s.put e).keys := by
    show _ = if s.t.last = e.key then s.keys else s.keys ++ [e.key]
    rw [keysK_snoc, h.key, h.run.tlast]
    rcases hg : own.getLast? with _ | y
    · rw [if_neg (by simp), if_neg]
      exact fun e => e4 e.symm
    · by_cases hy : y.key = e.key
      · rw [if_pos (by simp [hy]), if_pos (by simpa using hy)]
      · rw [if_neg (by simpa using hy), if_neg (by simpa using hy)]
  have hb : blocksK (own ++ [e]) = stepK (bls, cur) e := by rw [blocksK_snoc, h.blk]
  unfold stepK at hb
  simp only at hb
  rw [outB_size] at hb
  have hd : (s.put e).data.size = (foldB (cur ++ [rowE e])).size := by rw [hp.data]
  unfold TB.add
  rw [if_pos he]
  by_cases hz : 256 ≤ (s.put e).data.size
  · rw [if_pos hz]
    rw [if_pos (by rw [← hd]; exact hz)] at hb
    refine ⟨_, _, ⟨hp.ends_ (by simp), hb, hk⟩, by decide, .inr ⟨_, rfl, ?_⟩⟩
    show (s.put e).data.out = _
    rw [hp.data]
    rfl
  · rw [if_neg hz]
    rw [if_neg (by rw [← hd]; exact hz)] at hb
    refine ⟨bls, cur ++ [rowE e], ⟨by simp only [List.append_nil]; exact hp, hb, hk⟩, by rw [← hd]; omega, .inl ⟨rfl, rfl⟩⟩
def docBad (own : List Ent) (e : Ent) : Bool := decide (e.key = []) || (e.gone && !decide (e.value = [])) || decide (e.seq = 0) || decide (9223372036854775808 < e.seq) || (match own.getLast? with | none => false | some y => !aheadE y e)
def docErr (done : Bool) (own : List Ent) (e : Ent) : Nat := if done then 9 else if 64 < e.key.length ∨ 512 < e.value.length then 3 else if docBad own e then 1 else 0
theorem RunK.err (h : RunK n lv own s out bls cur) (e : Ent) (hq : e.seq < 18446744073709551616) : s.err e = docErr false own e := by
  unfold TB.err docErr
  rw [h.run.done]
  have hb : s.bad e = docBad own e := by
    unfold TB.bad docBad
    rw [h.run.count, h.run.last]
    congr 1
    · congr 2
      by_cases hq : e.seq = 0
      · simp [hq]
      · rw [decide_eq_false hq, decide_eq_false (by omega)]
    · rcases hg : own.getLast? with _ | y
      · have : own = [] := by simpa using hg
        subst this
        rfl
      · have hn : own ≠ [] := by rintro rfl; cases hg
        obtain ⟨c, x, rfl⟩ : ∃ c x, own = c ++ [x] := ⟨_, _, (List.dropLast_concat_getLast hn).symm⟩
        simp at hg
        subst hg
        rw [List.map_append, List.map_singleton, lastK_snoc]
        simp only [List.length_append, List.length_singleton]
        have hxs := (h.run.small x (by simp)).2.2.2
        rw [decide_eq_true (by omega), Bool.true_and, aheadE_less (by omega) (by omega)]
        rfl
  rw [hb]
end
def wholeB (bls : List (List (L × L))) (keys : List L) (n : Nat) : L := outs bls ++ filterL keys ++ outB (ixOf 0 bls) ++ bigL (outs bls).length 4 ++ bigL ((outs bls).length + (filterL keys).length) 4 ++ bigL n 4
def wholeZ (bls : List (List (L × L))) (keys : List L) (n : Nat) : L := wholeB bls keys n ++ bigL (crcL (wholeB bls keys n)) 4
theorem wholeK_Z (l : List Ent) : wholeK l = wholeZ (allK l) (keysK l) l.length := rfl
section
variable {n : Nat} {lv : Int} {own : List Ent} {s : TB} {out : L} {bls : List (List (L × L))} {cur : List (L × L)}
theorem RunI.tail_whole (h : RunI n lv own s out bls []) (hn : own.length ≤ 1000000) : out ++ s.tail = wholeZ bls s.keys own.length := by
  obtain ⟨hix, hil⟩ := h.index_out hn
  obtain ⟨hb, ho⟩ := h.blen
  have hkl := h.kl
  have hfl : (filterL s.keys).length ≤ 2000000 := by rw [filterL_len]; unfold filterN; omega
  have ht0 : s.tail0 = filterL s.keys ++ outB (ixOf 0 bls) ++ bigL out.length 4 ++ bigL (out.length + (filterL s.keys).length) 4 ++ bigL own.length 4 := by
    unfold TB.tail0
    rw [hix, h.at_, h.count, bigX_of (by omega), bigX_of (by omega), bigX_of (by omega)]
  have hp : s.parts.flatten = out := by rw [h.parts, h.out_]; rfl
  have hB : out ++ s.tail0 = wholeB bls s.keys own.length := by
    rw [ht0]
    unfold wholeB
    rw [← h.out_]
    simp only [List.append_assoc]
  have hf : (s.parts ++ [s.tail0]).flatten = wholeB bls s.keys own.length := by rw [List.flatten_append, hp, ← hB]; simp
  unfold TB.tail wholeZ
  rw [hf, ← List.append_assoc, hB]
theorem RunK.whole (h : RunK n lv own s out bls cur) (hne : own ≠ []) (hn : own.length ≤ 1000000) : wholeK own = out ++ s.outL ∧ outs (blocksK own).1 = out := by
  refine ⟨?_, by rw [h.blk, h.run.out_]⟩
  have hc : s.data.count = cur.length := by rw [h.run.data, foldB_count]
  rw [h.run.outL_eq hne, wholeK_Z, h.key]
  unfold TB.rest TB.fin allK
  rw [hc, h.blk]
  by_cases h0 : 0 < cur.length
  · have hcn := List.length_pos_iff.1 h0
    have he := (h.run.ends_ hcn).tail_whole hn
    rw [if_pos h0, if_pos h0, ← List.append_assoc, he]
    simp only []
    rw [if_neg hcn]
    rfl
  · have hcn : cur = [] := List.eq_nil_of_length_eq_zero (by omega)
    subst hcn
    rw [if_neg h0, if_neg h0, List.nil_append, h.run.tail_whole hn]
    simp only []
    rw [if_pos trivial, List.append_nil]
/-- What the document tells of a table. -/
def docT (n : Nat) (lv : Int) (own : List Ent) : TI := ⟨n, lv, own.length, (wholeK own).length, (own.head?.map (·.key)).getD [], (own.getLast?.map (·.key)).getD [], own.foldl (fun a e => min a e.seq) (headD own), own.foldl (fun a e => max a e.seq) (headD own)⟩
def docP (own : List Ent) : L := (wholeK own).drop (outs (blocksK own).1).length
theorem RunK.fin_eq (h : RunK n lv own s out bls cur) (hne : own ≠ []) (hn : own.length ≤ 1000000) : s.outL = docP own ∧ { s.t with size := (out ++ s.outL).length } = docT n lv own := by
  obtain ⟨h1, h2⟩ := h.whole hne hn
  constructor
  · unfold docP
    rw [h1, h2, List.drop_left]
  · unfold docT
    rw [h1, ← h.run.tn, ← h.run.tl, ← h.run.count, ← h.run.first, ← h.run.tlast, ← h.run.least, ← h.run.most]
end
/-- The document's builder in memory. -/
structure DBAt (w : World) (B g : Nat) (n : Nat) (lv : Int) (own : List Ent) (done : Bool) (v : Value) : Prop where
  hB : B ≤ g
  blk : Blk w g 50 #[.int .u64 (n : Nat), .int .i64 lv, v, .bool done]
  row : OwnE w B v own
theorem DBAt.below {w w' : World} {B g n : Nat} {lv : Int} {own : List Ent} {done : Bool} {v : Value} (h : DBAt w B g n lv own done v) (hb : Below w.heap.size w w') : DBAt w' B g n lv own done v := ⟨h.hB, h.blk.below hb h.blk.lt, h.row.below hb⟩
def SmallE (own : List Ent) : Prop := ∀ e ∈ own, e.key.length ≤ 64 ∧ e.value.length ≤ 512 ∧ e.seq < 18446744073709551616 ∧ (e.gone = true → e.value = [])
theorem docErr_small {done : Bool} {own : List Ent} {e : Ent} (h : docErr done own e = 0) : e.key.length ≤ 64 ∧ e.value.length ≤ 512 ∧ e.seq < 18446744073709551616 ∧ (e.gone = true → e.value = []) := by
  unfold docErr at h
  split at h
  · cases h
  · split at h
    · cases h
    · split at h
      · cases h
      · rename_i h1 h2 h3
        unfold docBad at h3
        simp only [Bool.or_eq_true, Bool.and_eq_true, decide_eq_true_eq, Bool.not_eq_true', not_or, not_and, decide_eq_false_iff_not, Decidable.not_not] at h3
        obtain ⟨⟨⟨⟨h4, h5⟩, h6⟩, h7⟩, h8⟩ := h3
        exact ⟨by omega, by omega, by omega, h5⟩
theorem SmallE.snoc {own : List Ent} {e : Ent} {done : Bool} (h : SmallE own) (he : docErr done own e = 0) : SmallE (own ++ [e]) := by
  intro x hx
  rcases List.mem_append.1 hx with hx | hx
  · exact h x hx
  · rw [List.mem_singleton.1 hx]
    exact docErr_small he
/-- The piece that an entry ends. -/
def pieceD (own : List Ent) (e : Ent) : L := if (blocksK own).1.length < (blocksK (own ++ [e])).1.length then (((blocksK (own ++ [e])).1.map outB).getLast?).getD [] else []
theorem RunK.piece {n : Nat} {lv : Int} {own : List Ent} {s : TB} {out : L} {bls bls' : List (List (L × L))} {cur cur' : List (L × L)} {e : Ent} (h : RunK n lv own s out bls cur) (h' : RunK n lv (own ++ [e]) (s.add e).1 (out ++ (s.add e).2) bls' cur')
    (hp : bls' = bls ∧ (s.add e).2 = [] ∨ ∃ b, bls' = bls ++ [b] ∧ (s.add e).2 = outB b) : (s.add e).2 = pieceD own e := by
  unfold pieceD
  rw [h.blk, h'.blk]
  rcases hp with ⟨e1, e2⟩ | ⟨b, e1, e2⟩
  · rw [e1, e2, if_neg (by simp)]
  · rw [e1, e2, if_pos (by simp)]
    simp
/-- What a builder's run keeps, with what the document's does. -/
theorem runX_K (n : Nat) (lv : Int) (es : List Ent) (hq : ∀ e ∈ es, e.seq < 18446744073709551616) : (∃ bl cu, RunK n lv (runX n lv es).2.2 (runX n lv es).1 (runX n lv es).2.1 bl cu ∧ (foldB cu).size < 256) ∧ SmallE (runX n lv es).2.2 := by
  induction es using snocRec with
  | nil => exact ⟨⟨[], [], RunK.new n lv, by decide⟩, fun e he => by cases he⟩
  | snoc es e ih =>
    obtain ⟨⟨bl, cu, h1, h2⟩, h3⟩ := ih (fun x hx => hq x (List.mem_append_left _ hx))
    rw [runX_snoc]
    generalize runX n lv es = r at *
    unfold stepX
    have herr := h1.err e (hq e (by simp))
    by_cases he : r.1.err e = 0
    · rw [if_pos he]
      obtain ⟨bl', cu', q1, q2, q3⟩ := h1.step h2 he
      exact ⟨⟨bl', cu', q1, q2⟩, h3.snoc (herr.symm.trans he)⟩
    · rw [if_neg he]
      have ha := add_err he
      refine ⟨⟨bl, cu, ?_, h2⟩, h3⟩
      simp only [ha, List.append_nil]
      exact h1
/-- One more entry: both builders answer alike. -/
theorem runX_add (n : Nat) (lv : Int) (es : List Ent) (e : Ent) (hq : ∀ x ∈ es, x.seq < 18446744073709551616) (hqe : e.seq < 18446744073709551616) :
    (runX n lv es).1.err e = docErr false (runX n lv es).2.2 e ∧ ((runX n lv es).1.err e = 0 → ((runX n lv es).1.add e).2 = pieceD (runX n lv es).2.2 e ∧ (runX n lv (es ++ [e])).2.2 = (runX n lv es).2.2 ++ [e]) ∧ ((runX n lv es).1.err e ≠ 0 → ((runX n lv es).1.add e).2 = [] ∧ (runX n lv (es ++ [e])).2.2 = (runX n lv es).2.2) := by
  obtain ⟨⟨bl, cu, h1, h2⟩, h3⟩ := runX_K n lv es hq
  rw [runX_snoc]
  generalize runX n lv es = r at *
  refine ⟨h1.err e hqe, fun he => ?_, fun he => ?_⟩
  · obtain ⟨bl', cu', q1, q2, q3⟩ := h1.step h2 he
    exact ⟨h1.piece q1 q3, by unfold stepX; rw [if_pos he]⟩
  · exact ⟨by rw [add_err he], by unfold stepX; rw [if_neg he]⟩
/-- Finish: both builders tell alike. -/
theorem runX_fin (n : Nat) (lv : Int) (es : List Ent) (hq : ∀ x ∈ es, x.seq < 18446744073709551616) (hne : (runX n lv es).2.2 ≠ []) (hl : es.length ≤ 1000000) : (runX n lv es).1.outL = docP (runX n lv es).2.2 ∧ finT (runX n lv es) = docT n lv (runX n lv es).2.2 := by
  obtain ⟨⟨bl, cu, h1, h2⟩, h3⟩ := runX_K n lv es hq
  have hlen := (runX_I n lv es).len
  obtain ⟨q1, q2⟩ := h1.fin_eq hne (by omega)
  refine ⟨q1, ?_⟩
  unfold finT
  rw [if_neg hne, q2]
set_option maxRecDepth 100000 in
set_option maxHeartbeats 1000000 in
theorem TAdd_nil (e : Ent) (w : World) : Calls Tryd.prog 10 #[.pointer none, .agg (entC e)] w fun r w' => r = .returned (.tuple #[.string ⟨#[]⟩, .int .i64 2]) ∧ Below w.heap.size w w' := by
  have hA : Below w.heap.size w (w.alloc (.cells (entC e) 33)) := (Below.refl _ _).alloc (Nat.le_refl _) _
  unfold entC
  unfold entC at hA
  go_enter Tryd.func10, Tryd.ntmps10
  go_wp2_with fail
  go_ret2
  exact ⟨rfl, hA⟩
set_option maxRecDepth 100000 in
set_option maxHeartbeats 1000000 in
theorem TFin_nil (w : World) : Calls Tryd.prog 9 #[.pointer none] w fun r w' => r = .returned (.tuple #[.string ⟨#[]⟩, .agg (tiC ⟨0, 0, 0, 0, [], [], 0, 0⟩), .int .i64 2]) ∧ Below w.heap.size w w' := by
  have hA : Below w.heap.size w (w.alloc (.cells (tiC ⟨0, 0, 0, 0, [], [], 0, 0⟩) 26)) := (Below.refl _ _).alloc (Nat.le_refl _) _
  have hR : Blk (w.alloc (.cells (tiC ⟨0, 0, 0, 0, [], [], 0, 0⟩) 26)) w.heap.size 26 (tiC ⟨0, 0, 0, 0, [], [], 0, 0⟩) := Blk.new _ _ _
  go_enter Tryd.func9, Tryd.ntmps9
  go_wp2_with fail
  exact bodyPost_ret (v := .tuple #[.string ⟨#[]⟩, .agg (tiC ⟨0, 0, 0, 0, [], [], 0, 0⟩), .int .i64 2]) (results_tct rfl _ _ w.heap.size _ _ _ rfl rfl rfl (load_ti hR rfl)) rfl ⟨rfl, hA⟩
set_option maxRecDepth 100000 in
set_option maxHeartbeats 1000000 in
theorem TGet_nil (key : ByteArray) (at_ : Nat) (w : World) : Calls Tryd.prog 11 #[.pointer none, .string key, .int .u64 (at_ : Nat)] w fun r w' => r = .returned (entV none) ∧ Below w.heap.size w w' := by
  have hA : Below w.heap.size w (w.alloc (.cells (entC ent0) 33)) := (Below.refl _ _).alloc (Nat.le_refl _) _
  have hR0 : Blk (w.alloc (.cells (entC ent0) 33)) w.heap.size 33 (entC ent0) := Blk.new _ _ _
  have hm := Lib.hid (tMay_nil key (w.alloc (.cells (entC ent0) 33)))
  go_enter Tryd.func11, Tryd.ntmps11
  go_wp2_with fail
  refine hm.out.mono ?_
  rintro e w1 ⟨rfl, hb1⟩
  have hb01 := hA.trans (hb1.mono hA.size)
  have hR1 := hR0.below hb1 hR0.lt
  have hfin := ent_set0 hR1 rfl
  have z0 := hR1.cell 0
  have z1 := hR1.cell 1
  have z2 := hR1.cell 2
  have z3 := hR1.cell 3
  have y0 := hR1.frozen 0
  have y1 := hR1.frozen 1
  have y2 := hR1.frozen 2
  have y3 := hR1.frozen 3
  have zl := hR1.lt
  replace hfin := Lib.hid hfin
  simp only [entC, ent0] at z0 z1 z2 z3
  go_wp2_with fail
  exact bodyPost_ret (v := entV none) (results_row_tmp rfl _ _ w.heap.size (.agg (entC ent0)) (.bool false) rfl rfl (load_ent hfin.out rfl)) rfl ⟨rfl, (((hb01.setCell (Nat.le_refl _) _).setCell (Nat.le_refl _) _).setCell (Nat.le_refl _) _).setCell (Nat.le_refl _) _⟩
section
variable {w0 wr w' : World} {n : Nat} {lv : Int} {gb : Nat} {es : List Ent} {v : Value} {rows : List Ent}
/-- Finish of a builder that took none. -/
theorem TSt.fin0 (h : TSt w0 wr n lv gb es v rows) (hne : (runX n lv es).2.2 = []) :
    Calls Tryd.prog 9 #[.pointer (some ⟨gb, 0, none⟩)] wr fun r w' => r = .returned (.tuple #[.string ⟨#[]⟩, .agg (tiC ⟨0, 0, 0, 0, [], [], 0, 0⟩), .int .i64 9]) ∧ TSt w0 w' n lv gb es v rows := by
  have hX := runX_I n lv es
  obtain ⟨⟨bl, cu, h6, h7⟩, hrun, hlen, hsub⟩ := hX
  obtain ⟨F, h1, h2, h3, h4⟩ := id h
  obtain ⟨vb1, vs1, vb2, vs2, vk, vp, hT, hF⟩ := h1
  have hc : (runX n lv es).1.t.count = 0 := by rw [h6.count, hne]; rfl
  refine (Fin_err hT.blk (.inr hc)).mono ?_
  rintro q w' ⟨rfl, hb⟩
  exact ⟨rfl, h.below hb⟩
def DoneB (w : World) (gb : Nat) : Prop := ∃ s' : TB, s'.done = true ∧ ∃ a b c d e f, Blk w gb 67 (tbC s' a b c d e f)
theorem DoneB.below {w w' : World} (h : DoneB w gb) (hb : Below w.heap.size w w') : DoneB w' gb := by
  obtain ⟨s', hd, a, b, c, d, e, f, hB⟩ := h
  exact ⟨s', hd, a, b, c, d, e, f, hB.below hb hB.lt⟩
theorem DoneB.add {w : World} (h : DoneB w gb) (e : Ent) : Calls Tryd.prog 10 #[.pointer (some ⟨gb, 0, none⟩), .agg (entC e)] w fun r w' => r = .returned (.tuple #[.string ⟨#[]⟩, .int .i64 9]) ∧ Below w.heap.size w w' := by
  obtain ⟨s', hd, a, b, c, d, x, f, hB⟩ := h
  exact TAdd_done hB hd e
theorem DoneB.fin {w : World} (h : DoneB w gb) : Calls Tryd.prog 9 #[.pointer (some ⟨gb, 0, none⟩)] w fun r w' => r = .returned (.tuple #[.string ⟨#[]⟩, .agg (tiC ⟨0, 0, 0, 0, [], [], 0, 0⟩), .int .i64 9]) ∧ Below w.heap.size w w' := by
  obtain ⟨s', hd, a, b, c, d, x, f, hB⟩ := h
  exact Fin_err hB (.inl hd)
theorem TSt.finD (h : TSt w0 wr n lv gb es v rows) (hG : Gl w0) (hN : es.length ≤ 1073741824) (hne : (runX n lv es).2.2 ≠ []) :
    Calls Tryd.prog 9 #[.pointer (some ⟨gb, 0, none⟩)] wr fun r w' => r = .returned (.tuple #[.string (bs (runX n lv es).1.outL), .agg (tiC (finT (runX n lv es))), .int .i64 0]) ∧ DoneB w' gb ∧ Below w0.heap.size w0 w' := by
  obtain ⟨F, h1, h2, h3, h4⟩ := h
  have hX := runX_I n lv es
  obtain ⟨⟨bl, cu, h6, h7⟩, hrun, hlen, hsub⟩ := hX
  generalize runX n lv es = r at *
  have hG0 := hG.lt
  refine (Fin_run h1 (hG.below h4 hG0) (fun q => by have := (h3 0 q).1; omega) (fun q => by have := (h3 1 q).1; omega) h6 hne (by omega)).mono ?_
  rintro q w' ⟨rfl, hD, hk⟩
  refine ⟨?_, hD, hk.below_of h4 (fun k hk => (h3 k hk).1)⟩
  unfold finT
  rw [if_neg hne, List.length_append]
end
/-- My builder, which entries were added to; the document's, that took some. -/
def Duo (w0 wr : World) (n : Nat) (lv : Int) (gb gd : Nat) (es own : List Ent) (v : Value) : Prop := ∃ F : Nat → Prop, TBIn wr F gb (runX n lv es).1 ∧ DBAt wr w0.heap.size gd n lv own false v ∧ (∀ k, F k → w0.heap.size ≤ k ∧ v.ownBlock ≠ some k ∧ k ≠ gd) ∧ v.ownBlock ≠ some gd ∧ Below w0.heap.size w0 wr
/-- Both are done. -/
def DuoD (w0 wr : World) (n : Nat) (lv : Int) (gb gd : Nat) (own : List Ent) (v : Value) : Prop := DoneB wr gb ∧ DBAt wr w0.heap.size gd n lv own true v ∧ Below w0.heap.size w0 wr
section
variable {w0 wr w' : World} {n : Nat} {lv : Int} {gb gd : Nat} {es own : List Ent} {v v' : Value}
theorem Duo.bel (h : Duo w0 wr n lv gb gd es own v) : Below w0.heap.size w0 wr := by
  obtain ⟨F, h1, h2, h3, h4, h5⟩ := h
  exact h5
theorem Duo.doc_ (h : Duo w0 wr n lv gb gd es own v) : DBAt wr w0.heap.size gd n lv own false v ∧ v.ownBlock ≠ some gd := by
  obtain ⟨F, h1, h2, h3, h4, h5⟩ := h
  exact ⟨h2, h4⟩
theorem Duo.below (h : Duo w0 wr n lv gb gd es own v) (hb : Below wr.heap.size wr w') : Duo w0 w' n lv gb gd es own v := by
  obtain ⟨F, h1, h2, h3, h4, h5⟩ := h
  exact ⟨F, h1.below hb, h2.below hb, h3, h4, h5.trans (hb.mono h5.size)⟩
theorem Duo.new (hT : TBAt wr w0.heap.size gb (TB.new n lv) (.slice none 0 0) (.slice none 0 0) (.slice none 0 0) (.slice none 0 0) (.slice none 0 0) (.slice none 0 0)) (hb : Below w0.heap.size w0 wr) (hd : Blk wr gd 50 #[.int .u64 (n : Nat), .int .i64 lv, .slice none 0 0, .bool false]) (hg : w0.heap.size ≤ gd) (hne : gb ≠ gd) : Duo w0 wr n lv gb gd [] [] (.slice none 0 0) := by
  have h0 : TBIn wr (fun k => k = gb) gb (TB.new n lv) := by
    refine ⟨_, _, _, _, _, _, ⟨Nat.zero_le _, hT.blk, own_base hT.o1, own_base hT.p1, own_base hT.o2, own_base hT.p2, own_base hT.ok, own_base hT.op, hT.nb, hT.ns, hT.np⟩, fun k hk => ?_⟩
    rcases hk with hk | hk | hk | hk | hk | hk | hk
    · exact hk
    all_goals cases hk
  exact ⟨_, h0, ⟨hg, hd, OwnE.nil _ _⟩, fun k hk => ⟨by have := hT.hB; omega, (fun e => by cases e), by rw [hk]; exact hne⟩, (fun e => by cases e), hb⟩
theorem Duo.add (h : Duo w0 wr n lv gb gd es own v) {wq : World} (hq : Below wr.heap.size wr wq) (hG : Gl w0) (hN : es.length ≤ 1073741824) (e : Ent) (hsq : e.seq < 18446744073709551616) :
    Calls Tryd.prog 10 #[.pointer (some ⟨gb, 0, none⟩), .agg (entC e)] wq fun r w' => r = .returned (.tuple #[.string (bs ((runX n lv es).1.add e).2), .int .i64 ((runX n lv es).1.err e : Nat)]) ∧ Duo w0 w' n lv gb gd (es ++ [e]) own v ∧ wq.heap.size ≤ w'.heap.size ∧ ∀ k, wr.heap.size ≤ k → k < wq.heap.size → w'.heap[k]? = wq.heap[k]? := by
  obtain ⟨F, h1, h2, h3, h4, h5⟩ := h
  have hX := runX_I n lv es
  have hsn := runX_snoc n lv es e
  obtain ⟨⟨bl, cu, h6, h7⟩, hrun, hlen, hsub⟩ := hX
  unfold Duo
  rw [hsn]
  generalize runX n lv es = r at *
  have h5q := h5.trans (hq.mono h5.size)
  have h1q := (h1.cut).below hq
  have hgl := h2.blk.lt
  have h2q : DBAt wq w0.heap.size gd n lv own false v := h2.below hq
  have hgl2 := h2q.blk.lt
  refine (TAdd_any h1q (hG.below h5q hG.lt) e hsq (M := 1073741824) (Nat.le_refl _) (h6.tbd (by omega))).mono ?_
  rintro q w' ⟨rfl, hT, hk⟩
  refine ⟨rfl, ⟨_, hT, ⟨h2q.hB, h2q.blk.keptB hk (fun q => (h3 _ q.1).2.2 rfl), own_kept h2q.row hk (fun k e q => (h3 k q.1).2.1 e)⟩, fun k hk => ?_, h4, hk.below_of h5q (fun k hk => (h3 k hk.1).1)⟩, hk.size, fun k k1 k2 => hk.block k k2 (fun q => by have := q.2; omega)⟩
  rcases hk with hk | hk
  · exact h3 k hk.1
  · have := h5q.size
    exact ⟨by omega, (fun e => by have := (own_lt h2q.row k e).2; omega), by omega⟩
/-- The document's builder took an entry. -/
theorem Duo.took (h : Duo w0 wr n lv gb gd es own v) {own' : List Ent} (hd : DBAt w' w0.heap.size gd n lv own' false v') (hn : ∀ k, v'.ownBlock = some k → wr.heap.size ≤ k) (hk : KeptBut wr w' (fun k => k = gd)) : Duo w0 w' n lv gb gd es own' v' := by
  obtain ⟨F, h1, h2, h3, h4, h5⟩ := h
  have hgl := h2.blk.lt
  refine ⟨_, (h1.cut).kept hk (fun k hf e => (h3 k hf.1).2.2 e), hd, fun k hf => ⟨(h3 k hf.1).1, (fun e => ?_), (h3 k hf.1).2.2⟩, (fun e => ?_), hk.below_of h5 (fun k e => by rw [e]; exact h2.hB)⟩
  · have := hn k e
    have := hf.2
    omega
  · have := hn _ e
    omega
theorem Duo.fin0 (h : Duo w0 wr n lv gb gd es own v) (hne : (runX n lv es).2.2 = []) :
    Calls Tryd.prog 9 #[.pointer (some ⟨gb, 0, none⟩)] wr fun r w' => r = .returned (.tuple #[.string (bs []), .agg (tiC ⟨0, 0, 0, 0, [], [], 0, 0⟩), .int .i64 9]) ∧ Duo w0 w' n lv gb gd es own v := by
  have hX := runX_I n lv es
  obtain ⟨⟨bl, cu, h6, h7⟩, hrun, hlen, hsub⟩ := hX
  obtain ⟨F, h1, h2, h3, h4, h5⟩ := id h
  obtain ⟨vb1, vs1, vb2, vs2, vk, vp, hT, hF⟩ := h1
  have hc : (runX n lv es).1.t.count = 0 := by rw [h6.count, hne]; rfl
  refine (Fin_err hT.blk (.inr hc)).mono ?_
  rintro q w' ⟨rfl, hb⟩
  exact ⟨rfl, h.below hb⟩
theorem Duo.finD (h : Duo w0 wr n lv gb gd es own v) (hG : Gl w0) (hN : es.length ≤ 1073741824) (hne : (runX n lv es).2.2 ≠ []) :
    Calls Tryd.prog 9 #[.pointer (some ⟨gb, 0, none⟩)] wr fun r w' => r = .returned (.tuple #[.string (bs (runX n lv es).1.outL), .agg (tiC (finT (runX n lv es))), .int .i64 0]) ∧ DoneB w' gb ∧ DBAt w' w0.heap.size gd n lv own false v ∧ v.ownBlock ≠ some gd ∧ gb ≠ gd ∧ Below w0.heap.size w0 w' := by
  obtain ⟨F, h1, h2, h3, h4, h5⟩ := h
  have hX := runX_I n lv es
  obtain ⟨⟨bl, cu, h6, h7⟩, hrun, hlen, hsub⟩ := hX
  generalize runX n lv es = r at *
  have hG0 := hG.lt
  refine (Fin_run h1 (hG.below h5 hG0) (fun q => by have := (h3 0 q).1; omega) (fun q => by have := (h3 1 q).1; omega) h6 hne (by omega)).mono ?_
  rintro q w' ⟨rfl, hD, hk⟩
  refine ⟨?_, hD, ⟨h2.hB, h2.blk.keptB hk (fun q => (h3 _ q).2.2 rfl), own_kept h2.row hk (fun k e q => (h3 k q).2.1 e)⟩, h4, (h3 _ h1.g).2.2, hk.below_of h5 (fun k hk => (h3 k hk).1)⟩
  unfold finT
  rw [if_neg hne, List.length_append]
theorem DoneB.kept {w w' : World} {gb gd : Nat} (h : DoneB w gb) (hk : KeptBut w w' (fun k => k = gd)) (hne : gb ≠ gd) : DoneB w' gb := by
  obtain ⟨s', hd, a, b, c, d, e, f, hB⟩ := h
  exact ⟨s', hd, a, b, c, d, e, f, hB.keptB hk hne⟩
theorem DuoD.bel (h : DuoD w0 wr n lv gb gd own v) : Below w0.heap.size w0 wr := h.2.2
theorem DuoD.below (h : DuoD w0 wr n lv gb gd own v) (hb : Below wr.heap.size wr w') : DuoD w0 w' n lv gb gd own v := ⟨h.1.below hb, h.2.1.below hb, h.2.2.trans (hb.mono h.2.2.size)⟩
end
end Go.Proofs.YtfnlponoakhegaaDoor
