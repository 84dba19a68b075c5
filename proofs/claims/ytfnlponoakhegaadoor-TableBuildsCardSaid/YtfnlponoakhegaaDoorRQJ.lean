/- The document's builder: Finish. -/
import Derived.Test.YtfnlponoakhegaaDoorRLJ
import Derived.Test.YtfnlponoakhegaaDoorB24
import Derived.Test.YtfnlponoakhegaaDoorTFinEJ
import Derived.Deep.DeepCutAuto
namespace Go.Proofs.YtfnlponoakhegaaDoor
open Go.RowKit
set_option linter.unusedVariables false
set_option linter.unusedSimpArgs false
def ti0 : TI := ⟨0, 0, 0, 0, [], [], 0, 0⟩
set_option maxRecDepth 100000 in
set_option maxHeartbeats 4000000 in
theorem DFin_err {w : World} {B g n : Nat} {lv : Int} {own : List Ent} {done : Bool} {v : Value} (h : DBAt w B g n lv own done v) (hd : done = true ∨ own = []) :
    Calls Tryd.prog 21 #[.pointer (some ⟨g, 0, none⟩)] w fun r w' => r = .returned (.tuple #[.string (bs []), .agg (tiC ⟨0, 0, 0, 0, [], [], 0, 0⟩), .int .i64 9]) ∧ Below w.heap.size w w' := by
  have hA : Below w.heap.size w (w.alloc (.cells (tiC ⟨0, 0, 0, 0, [], [], 0, 0⟩) 26)) := (Below.refl _ _).alloc (Nat.le_refl _) _
  have hR0 : Blk (w.alloc (.cells (tiC ⟨0, 0, 0, 0, [], [], 0, 0⟩) 26)) w.heap.size 26 (tiC ⟨0, 0, 0, 0, [], [], 0, 0⟩) := Blk.new _ _ _
  obtain ⟨A, cap, rfl⟩ := h.row.form
  have c2 : w.cell? ⟨g, 2, none⟩ = some (.slice A own.length cap) := h.blk.cell 2
  have c3 : w.cell? ⟨g, 3, none⟩ = some (.bool done) := h.blk.cell 3
  have hlt := h.blk.lt
  cases done with
  | true =>
    clear hd
    go_enter Tryd.func21, Tryd.ntmps21
    go_wp2_with fail
    exact bodyPost_ret (v := .tuple #[.string (bs []), .agg (tiC ⟨0, 0, 0, 0, [], [], 0, 0⟩), .int .i64 9]) (results_tct rfl _ _ w.heap.size _ _ _ rfl rfl rfl (load_ti hR0 rfl)) rfl ⟨rfl, hA⟩
  | false =>
    have hn := hd.resolve_left (by decide)
    subst hn
    simp only [List.length_nil] at c2
    clear hd
    go_enter Tryd.func21, Tryd.ntmps21
    go_wp2_with fail
    exact bodyPost_ret (v := .tuple #[.string (bs []), .agg (tiC ⟨0, 0, 0, 0, [], [], 0, 0⟩), .int .i64 9]) (results_tct rfl _ _ w.heap.size _ _ _ rfl rfl rfl (load_ti hR0 rfl)) rfl ⟨rfl, hA⟩
theorem outs_len_mono (bls : List (List (L × L))) (i : Nat) : (outs (bls.take i)).length ≤ (outs bls).length := outs_take bls i
theorem foldl_min_take (own : List Ent) (a i : Nat) (h : i < own.length) : (own.take (i + 1)).foldl (fun a e => min a e.seq) a = min ((own.take i).foldl (fun a e => min a e.seq) a) own[i].seq := by
  rw [List.take_succ_eq_append_getElem h, List.foldl_append]; rfl
theorem foldl_max_take (own : List Ent) (a i : Nat) (h : i < own.length) : (own.take (i + 1)).foldl (fun a e => max a e.seq) a = max ((own.take i).foldl (fun a e => max a e.seq) a) own[i].seq := by
  rw [List.take_succ_eq_append_getElem h, List.foldl_append]; rfl
theorem outs_app (a b : List (List (L × L))) : outs (a ++ b) = outs a ++ outs b := by simp [outs]
theorem outs_blocks_all (own : List Ent) : (outs (blocksK own).1).length ≤ (outs (allK own)).length := by
  unfold allK
  rw [outs_app, List.length_append]
  omega
theorem outs_all_whole (own : List Ent) : (outs (allK own)).length ≤ (wholeK own).length := by
  unfold wholeK wholeA
  simp only [List.length_append]
  omega
theorem DBAt.keptT {w w' : World} {B g n : Nat} {lv : Int} {own : List Ent} {done : Bool} {v : Value} (h : DBAt w B g n lv own done v) {b : Nat} {cs : Array Value} (hR : Blk w b 26 cs) (hg : g ≠ b) (hk : KeptBut w w' (fun k => k = b)) : DBAt w' B g n lv own done v :=
  ⟨h.hB, h.blk.keptB hk hg, own_kept h.row hk (fun k e q => own_blk_ne h.row hR (by decide) (by rw [e, q]))⟩
def tiM (x : TI) (own : List Ent) (i : Nat) : TI := { x with least := (own.take i).foldl (fun a e => min a e.seq) (headD own), most := (own.take i).foldl (fun a e => max a e.seq) (headD own) }
theorem tiM_end (n : Nat) (lv : Int) (own : List Ent) : tiM (docT n lv own) own own.length = docT n lv own := by
  unfold tiM docT
  rw [List.take_length]
theorem min_le_all (own : List Ent) (i a : Nat) (M : Nat) (h : a < M) : (own.take i).foldl (fun a e => min a e.seq) a < M := by
  generalize own.take i = l
  induction l generalizing a with
  | nil => exact h
  | cons e l ih => exact ih _ (by show min a e.seq < M; omega)
theorem max_lt_all (own : List Ent) (i a : Nat) (M : Nat) (h : a < M) (ho : ∀ e ∈ own, e.seq < M) : (own.take i).foldl (fun a e => max a e.seq) a < M := by
  have h2 : ∀ e ∈ own.take i, e.seq < M := fun e he => ho e (List.mem_of_mem_take he)
  generalize own.take i = l at *
  induction l generalizing a with
  | nil => exact h
  | cons e l ih => exact ih _ (by show max a e.seq < M; have := h2 e (List.mem_cons_self ..); omega) (fun x hx => h2 x (List.mem_cons_of_mem _ hx))
set_option maxRecDepth 100000 in
set_option maxHeartbeats 40000000 in
theorem DFin_ok {w : World} {B g n : Nat} {lv : Int} {own : List Ent} {v : Value} (h : DBAt w B g n lv own false v) (hne : own ≠ []) (hl : own.length ≤ 1000) (hsm : SmallE own) :
    Calls Tryd.prog 21 #[.pointer (some ⟨g, 0, none⟩)] w fun r w' => r = .returned (.tuple #[.string (bs (docP own)), .agg (tiC (docT n lv own)), .int .i64 0]) ∧ DBAt w' B g n lv own true v ∧ KeptBut w w' (fun k => k = g) := by
  obtain ⟨A, cap, rfl⟩ := h.row.form
  have hlt := h.blk.lt
  have hBg := h.hB
  have hrow := h.row
  have hop : 0 < own.length := List.length_pos_iff.2 hne
  have hon : ¬ ((own.length : Nat) : Int) = 0 := by omega
  have hng : ∀ k, (Value.slice A own.length cap).ownBlock = some k → ¬ k = g := fun k hk q => own_blk_ne hrow h.blk (by decide) (by rw [hk, q])
  have hsz : (w.setCell ⟨g, 3, none⟩ (.bool true)).heap.size = w.heap.size := by simp [World.setCell]
  have hbA : Below (w.setCell ⟨g, 3, none⟩ (.bool true)).heap.size (w.setCell ⟨g, 3, none⟩ (.bool true)) ((w.setCell ⟨g, 3, none⟩ (.bool true)).alloc (.cells #[.int .u64 0, .int .i64 0, .int .i64 0, .int .i64 0, .string ⟨#[]⟩, .string ⟨#[]⟩, .int .u64 0, .int .u64 0] 26)) := (Below.refl _ _).alloc (Nat.le_refl _) _
  have hk1 : KeptBut w ((w.setCell ⟨g, 3, none⟩ (.bool true)).alloc (.cells #[.int .u64 0, .int .i64 0, .int .i64 0, .int .i64 0, .string ⟨#[]⟩, .string ⟨#[]⟩, .int .u64 0, .int .u64 0] 26)) (fun k => k = g) := ((KeptBut.refl w (fun k => k = g)).then_set (b := g) rfl).then_below hbA
  have hO1 : OwnE ((w.setCell ⟨g, 3, none⟩ (.bool true)).alloc (.cells #[.int .u64 0, .int .i64 0, .int .i64 0, .int .i64 0, .string ⟨#[]⟩, .string ⟨#[]⟩, .int .u64 0, .int .u64 0] 26)) B (.slice A own.length cap) own := own_kept hrow hk1 hng
  have hB1 := (h.blk.set_ 3 (.bool true)).below hbA (h.blk.set_ 3 (.bool true)).lt
  have hR1 : Blk ((w.setCell ⟨g, 3, none⟩ (.bool true)).alloc (.cells #[.int .u64 0, .int .i64 0, .int .i64 0, .int .i64 0, .string ⟨#[]⟩, .string ⟨#[]⟩, .int .u64 0, .int .u64 0] 26)) w.heap.size 26 #[.int .u64 0, .int .i64 0, .int .i64 0, .int .i64 0, .string ⟨#[]⟩, .string ⟨#[]⟩, .int .u64 0, .int .u64 0] := by
    have := Blk.new (w.setCell ⟨g, 3, none⟩ (.bool true)) 26 #[.int .u64 0, .int .i64 0, .int .i64 0, .int .i64 0, .string ⟨#[]⟩, .string ⟨#[]⟩, .int .u64 0, .int .u64 0]
    rw [hsz] at this
    exact this
  have c2 : w.cell? ⟨g, 2, none⟩ = some (.slice A own.length cap) := h.blk.cell 2
  have c3 : w.cell? ⟨g, 3, none⟩ = some (.bool false) := h.blk.cell 3
  have f3 := h.blk.frozen 3
  have hblk := Lib.hid fun (W : World) (ho : OwnE W B (.slice A own.length cap) own) => RBlocks_any A own cap W (Reads.of_own ho) hl hsm
  have hwh := Lib.hid fun (W : World) (ho : OwnE W B (.slice A own.length cap) own) => RWhole_any A own cap W (Reads.of_own ho) hl hsm
  have hsq : ∀ e ∈ own, e.seq < 18446744073709551616 := fun e he => (hsm e he).2.2.1
  obtain ⟨y0, hy0⟩ : ∃ y, own[0]? = some y := ⟨own[0], List.getElem?_eq_getElem hop⟩
  obtain ⟨yz, hyz⟩ : ∃ y, own[own.length - 1]? = some y := ⟨own[own.length - 1], List.getElem?_eq_getElem (by omega)⟩
  have hT0 : docT n lv own = ⟨n, lv, own.length, (wholeK own).length, y0.key, yz.key, own.foldl (fun a e => min a e.seq) (headD own), own.foldl (fun a e => max a e.seq) (headD own)⟩ := by
    unfold docT
    rw [List.head?_eq_getElem?, hy0, List.getLast?_eq_getElem?, hyz]
    rfl
  have hh0 : headD own = y0.seq := by
    unfold headD
    rw [List.head?_eq_getElem?, hy0]
    rfl
  have hs0 : y0.seq < 18446744073709551616 := hsq _ (List.mem_of_getElem? hy0)
  have hsmv := hsm
  replace hsm := 0
  obtain ⟨w1, hw1⟩ : ∃ w1, ((w.setCell ⟨g, 3, none⟩ (.bool true)).alloc (.cells #[.int .u64 0, .int .i64 0, .int .i64 0, .int .i64 0, .string ⟨#[]⟩, .string ⟨#[]⟩, .int .u64 0, .int .u64 0] 26)) = w1 := ⟨_, rfl⟩
  rw [hw1] at hk1 hO1 hB1 hR1
  clear hbA hsz
  replace hw1 := Lib.hid hw1
  replace hng := Lib.hid hng
  replace hrow := Lib.hid hrow
  replace hT0 := Lib.hid hT0
  replace hh0 := Lib.hid hh0
  replace hy0 := Lib.hid hy0
  replace hyz := Lib.hid hyz
  replace hO1 := Lib.hid hO1
  clear h
  go_enter Tryd.func21, Tryd.ntmps21
  go_upto_region 5 with fail
  rw [hw1.out]
  have d2 : w1.cell? ⟨g, 2, none⟩ = some (.slice A own.length cap) := hB1.cell 2
  have hl1 := hB1.lt
  clear c2 c3 f3
  go_wp2_with fail
  refine (hblk.out w1 hO1.out).mono ?_
  rintro r w2 ⟨v5, v6, v7, rfl, hS⟩
  have hb2 : Below w1.heap.size w1 w2 := hS.bel
  have hB2 := hB1.below hb2 hl1
  have hR2 := hR1.below hb2 hR1.lt
  have hO2 := hO1.out.below hb2
  have hl2 := hB2.lt
  have e2 : w2.cell? ⟨g, 2, none⟩ = some (.slice A own.length cap) := hB2.cell 2
  have hk2 := hk1.then_below hb2
  obtain ⟨A5, c5, rfl⟩ := hS.o5.form
  have hn5 : ((blocksK own).1.map outB).length = (blocksK own).1.length := List.length_map ..
  have ho5 : w2.ownsRow w1.heap.size 9 1 (.slice A5 (blocksK own).1.length c5) (blocksK own).1.length (((blocksK own).1.map outB).map strV) := by have := hS.o5; unfold OwnS at this; rwa [hn5] at this
  have hbl := blocksK_rows own
  have htot : (outs (blocksK own).1).length ≤ 1099511627776 := by
    obtain ⟨ha1, ha2, ha3⟩ := allK_facts own hl (fun e he => ⟨(hsmv e he).1, (hsmv e he).2.1⟩)
    have h1 := outs_len_le (M := 652) (bls := allK own) (fun b hb r hr => by have := ha3 b hb r hr; omega)
    have h2 := congrArg List.length ha2
    rw [List.length_map] at h2
    have h3 := outs_blocks_all own
    omega
  have hoa := outs_blocks_all own
  have hbln : (blocksK own).1.length ≤ 1000 := by have := hbl.2; omega
  have hdp : docP own = (wholeK own).drop (outs (blocksK own).1).length := rfl
  rw [hn5]
  generalize (blocksK own).1 = bls at *
  clear hS hbl hn5 hblk hsmv
  replace hO2 := Lib.hid hO2
  replace hdp := Lib.hid hdp
  go_wp2_with fail
  go_loopw [5, 9] (fun tv iv wr => ∃ i, i ≤ bls.length ∧ iv = .int .i64 (i : Nat) ∧ tv = .int .i64 ((outs (bls.take i)).length : Nat) ∧ Below w2.heap.size w2 wr) (fun _ iv _ => bls.length - (intOf iv).toNat)
  case atStart => exact ⟨0, Nat.zero_le _, rfl, rfl, Below.refl _ _⟩
  case round =>
    obtain ⟨i, hi, rfl, rfl, hbr⟩ := hrel
    have hzr := hbr.size
    by_cases hil : i < bls.length
    · have hil' : ((i : Nat) : Int) < (bls.length : Nat) := by omega
      have hsn1 : (outs (bls.take (i + 1))).length = (outs (bls.take i)).length + (outB bls[i]).length := by rw [List.take_succ_eq_append_getElem hil, outs_snoc, List.length_append]
      obtain ⟨a3, rfl, hab3, ac3⟩ := ((Reads.of_own ho5).below hbr).2 (by omega)
      have q3 := ac3 i (.string (bs (outB bls[i]))) (by rw [List.getElem?_map, List.getElem?_map, List.getElem?_eq_getElem hil]; rfl)
      obtain ⟨b3, o3, rfl⟩ := plain_cell (ac3 0 (.string (bs (outB bls[0]))) (by rw [List.getElem?_map, List.getElem?_map, List.getElem?_eq_getElem (by omega)]; rfl))
      rw [add_off] at q3
      have hS1 := outs_len_mono bls (i + 1)
      rw [hsn1] at hS1
      have hz4 : (bs (outB bls[i])).size = (outB bls[i]).length := bs_size _
      generalize (outs (bls.take i)).length = t at *
      generalize outB bls[i] = ob at *
      replace hsn1 := Lib.hid hsn1
      clear ac3
      go_wp2_with fail
      refine ⟨⟨i + 1, by omega, by go_num, ?_, hbr⟩, by first | omega | (simp only [intOf]; omega)⟩
      rw [hsn1.out]
      go_num
    · obtain rfl : i = bls.length := by omega
      have hil' : ¬ ((bls.length : Nat) : Int) < (bls.length : Nat) := by omega
      rw [List.take_length]
      generalize hto : (outs bls).length = told at *
      have hB3 := hB2.below hbr hl2
      have hO3 := hO2.out.below hbr
      have hR3 := hR2.below hbr hR2.lt
      have hk3 := hk2.then_below hbr
      have hl3 := hB3.lt
      have e3 : wr.cell? ⟨g, 2, none⟩ = some (.slice A own.length cap) := hB3.cell 2
      clear hB2 hR2 hk2 e2 hbr hil hi ho5
      generalize wr = w3 at *
      go_wp2_with fail
      refine (hwh.out w3 hO3).mono ?_
      rintro r w4 ⟨rfl, hb4⟩
      have hB4 := hB3.below hb4 hl3
      have hO4 := hO3.below hb4
      have hR4 := hR3.below hb4 hR3.lt
      have hk4 := hk3.then_below hb4
      have hl4 := hB4.lt
      have hz4 := hb4.size
      have g0 : w4.cell? ⟨g, 0, none⟩ = some (.int .u64 (n : Nat)) := hB4.cell 0
      have g1 : w4.cell? ⟨g, 1, none⟩ = some (.int .i64 lv) := hB4.cell 1
      have g2 : w4.cell? ⟨g, 2, none⟩ = some (.slice A own.length cap) := hB4.cell 2
      obtain ⟨ad, rfl, hab, acell⟩ := (Reads.of_own hO4).2 hop
      obtain ⟨bb, oo, rfl⟩ := plain_cell (acell 0 _ (entsC_at own 0 y0 hy0.out).1)
      have q0 := acell _ _ (entsC_at own 0 y0 hy0.out).1
      have q2 := acell _ _ (entsC_at own 0 y0 hy0.out).2.2.1
      have r0 := acell _ _ (entsC_at own _ yz hyz.out).1
      rw [add_off] at q0 q2 r0
      simp only [Nat.zero_mul, Nat.zero_add, Nat.add_zero] at q0 q2
      have hab' : bb < w4.heap.size := hab
      have hi7 : ((own.length : Nat) : Int) - 1 = ((own.length - 1 : Nat) : Int) := by omega
      have hi7' : own.length - 1 < own.length := by omega
      generalize hln : own.length - 1 = lm at *
      have hzw : (bs (wholeK own)).size = (wholeK own).length := bs_size _
      have hwd : told ≤ (wholeK own).length := Nat.le_trans hoa (outs_all_whole own)
      obtain ⟨wk, hwk⟩ : ∃ x, x = wholeK own := ⟨_, rfl⟩
      rw [← hwk] at hT0 hdp hzw hwd ⊢
      replace hwk := Lib.hid hwk
      replace hto := Lib.hid hto
      replace hO4 := Lib.hid hO4
      clear acell hwh hO3 hB3 hR3 hk3 hk1 hB1 hR1 hO1 d2 e3
      go_wp2_with fail
      have hxc := @Ext.cell
      have hxf := @Ext.frozen
      refine wp_hide (fun Q0 hQ0 => ?_)
      refine wp_region_line2 (fun w' => ∃ x : Ext _, w' = x.w) [some false, some false, some false, some false, some false, some false, some false, some false, some false, some false, some false, some false, some false, some false, some false, some false, some false, some false, some false, some false, some false, some false, some false, some false, some false, some false, some false, some false, some false, some false, some false, some false, some false, some false, some false, some false, some false, some false, some false, some false, some false, some false, some false, some false, some false, some false, some false, some false, some false, some false, none, none] 1 (by kernel_rfl) (by kernel_rfl) ⟨⟨_, (Below.refl _ _).drew⟩, rfl⟩ ?_
      simp only [earlyL, tailL]
      repeat (first | ((with_reducible refine wpMix_p ?_); go_big_quiet_step (fail); refine wpQuiet_nil ?_) | ((with_reducible refine wpMix_e ?_); go_big_quiet_step ((first | fail)); refine wpQuiet_nil ?_))
      refine wpMix_nil ?_
      clear hxc hxf
      intro wx hwx
      obtain ⟨x, hx⟩ := hwx
      have hb := x.below
      rw [← hx] at hb
      clear hx x
      refine wpTail_step ?_
      intro Q1 hQ1
      go_wp2_with fail
      refine hQ1 _ _ rfl (fun _ => ⟨⟨_, hb.alloc hb.size _⟩, rfl⟩) ?_
      clear hQ1 Q1
      have hT6 := Blk.new wx 26 #[.int .u64 (n : Nat), .int .i64 lv, .int .i64 (own.length : Nat), .int .i64 (wk.length : Nat), .string (bs y0.key), .string (bs yz.key), .int .u64 (y0.seq : Nat), .int .u64 (y0.seq : Nat)]
      have hb6 := hb.alloc hb.size (.cells #[.int .u64 (n : Nat), .int .i64 lv, .int .i64 (own.length : Nat), .int .i64 (wk.length : Nat), .string (bs y0.key), .string (bs yz.key), .int .u64 (y0.seq : Nat), .int .u64 (y0.seq : Nat)] 26)
      have hzx := hb.size
      generalize htb : wx.heap.size = tb at *
      refine wpTail_step ?_
      intro Q1 hQ1
      go_wp2_with (fail)
      refine hQ1 _ _ rfl (fun h => absurd h (by decide)) ?_
      clear hQ1 Q1
      refine wpTail_nil ?_
      refine hQ0 _ _ ?_
      clear hQ0 Q0
      generalize hw6 : wx.alloc _ = w6 at *
      replace hw6 := Lib.hid hw6
      replace htb := Lib.hid htb
      have hTm : Blk w6 tb 26 (tiC (tiM (docT n lv own) own 0)) := by
        rw [show tiM (docT n lv own) own 0 = ⟨n, lv, own.length, wk.length, y0.key, yz.key, y0.seq, y0.seq⟩ from by
          rw [hT0.out]
          unfold tiM
          simp only [List.take_zero, List.foldl_nil, hh0.out]]
        exact hT6
      have hwl : docP own = wk.drop told := hdp.out
      clear hT6 hb hb4 g0 g1 g2 q0 q2 r0 hwk hto hln hi7 hi7' hyz hzr hl3 hl2 hb2 hil' hl1 hoa hon
      obtain ⟨X, hX⟩ : ∃ X, X = docT n lv own := ⟨_, rfl⟩
      rw [← hX] at hTm hT0
      replace hX := Lib.hid hX
      replace hT0 := Lib.hid hT0
      replace hwl := Lib.hid hwl
      go_wp2_with fail
      go_loopw [12] (fun iv wr => ∃ i, i ≤ own.length ∧ iv = .int .i64 (i : Nat) ∧ Blk wr tb 26 (tiC (tiM X own i)) ∧ Below w4.heap.size w4 wr) (fun iv _ => own.length - (intOf iv).toNat)
      case atStart => exact ⟨0, Nat.zero_le _, rfl, hTm, hb6⟩
      case round =>
        obtain ⟨i, hi, rfl, hT, hbr⟩ := hrel
        have hzr := hbr.size
        have hBr := hB4.below hbr hl4
        have c2 : wr.cell? ⟨g, 2, none⟩ = some (.slice (some ⟨bb, oo, none⟩) own.length cap) := hBr.cell 2
        have hlr := hBr.lt
        by_cases hil : i < own.length
        · have hil' : ((i : Nat) : Int) < (own.length : Nat) := by omega
          have hmn := foldl_min_take own (headD own) i hil
          have hmx := foldl_max_take own (headD own) i hil
          obtain ⟨ad, e9, hab9, hcell⟩ := ((Reads.of_own hO4.out).below hbr).2 hop
          injection e9 with e9
          subst e9
          have hent := (entsC_at own i own[i] (List.getElem?_eq_getElem hil)).2.2.1
          have q := hcell _ _ hent
          rw [add_off] at q
          rw [← Nat.add_assoc] at q
          have hab' : bb < w4.heap.size := hab9
          have hys := hsq own[i] (List.getElem_mem hil)
          obtain ⟨ls, hls⟩ : ∃ x, x = (own.take i).foldl (fun a e => min a e.seq) (headD own) := ⟨_, rfl⟩
          obtain ⟨ms, hms⟩ : ∃ x, x = (own.take i).foldl (fun a e => max a e.seq) (headD own) := ⟨_, rfl⟩
          have hTi : tiM X own i = { X with least := ls, most := ms } := by unfold tiM; rw [hls, hms]
          rw [hTi] at hT
          have hTn : tiM X own (i + 1) = { X with least := min ls own[i].seq, most := max ms own[i].seq } := by unfold tiM; rw [hmn, hmx, ← hls, ← hms]
          generalize own[i].seq = ys at *
          replace hent := Lib.hid hent
          clear hcell hmn hmx hls hms hTi
          have t6 : wr.cell? ⟨tb, 6, none⟩ = some (.int .u64 (ls : Nat)) := hT.cell 6
          have hbb : bb < wr.heap.size := Nat.lt_of_lt_of_le hab' hzr
          have hlt6 := hT.lt
          by_cases h1 : ys < ls
          · have h1' : ((ys : Nat) : Int) < (ls : Nat) := by omega
            have hmin : min ls ys = ys := by omega
            rw [hmin] at hTn
            go_wp2_with fail
            have hxc := @Ext.cell
            refine wp_region_ext (by kernel_rfl) (by kernel_rfl) ?_
            repeat (go_big_quiet_step ((first | fail)))
            refine wpQuiet_nil ?_
            clear hxc
            intro wx hwx
            obtain ⟨x, hx⟩ := hwx
            have hb := x.below
            rw [← hx] at hb
            clear hx x
            have hT2 := hT.below hb hlt6
            have hb2 := hbr.trans (hb.mono hzr)
            have c22 : wx.cell? ⟨g, 2, none⟩ = some (.slice (some ⟨bb, oo, none⟩) own.length cap) := (hBr.below hb hlr).cell 2
            have q2 : wx.cell? ⟨bb, oo + i * 4 + 2, none⟩ = some (.int .u64 (ys : Nat)) := (hb.cell (p := ⟨bb, oo + i * 4 + 2, none⟩) hbb).trans q
            have f6 := hT2.frozen 6
            have t62 : wx.cell? ⟨tb, 6, none⟩ = some (.int .u64 (ls : Nat)) := hT2.cell 6
            have hl2 := hT2.lt
            have hlg2 := (hBr.below hb hlr).lt
            have hbb2 : bb < wx.heap.size := Nat.lt_of_lt_of_le hbb hb.size
            clear hb
            go_wp2_with fail
            have hT7 : Blk (wx.setCell ⟨tb, 6, none⟩ (.int .u64 (ys : Nat))) tb 26 (tiC { X with least := ys, most := ms }) := hT2.set_ 6 (.int .u64 (ys : Nat))
            have hb7 := hb2.setCell (p := ⟨tb, 6, none⟩) hzx (.int .u64 (ys : Nat))
            generalize hw7 : wx.setCell ⟨tb, 6, none⟩ (.int .u64 (ys : Nat)) = w7 at *
            replace hw7 := Lib.hid hw7
            clear c22 q2 f6 t62 hT2 hb2 hbb2 hlg2 hl2
            have hB7 := hB4.below hb7 hl4
            have c27 : w7.cell? ⟨g, 2, none⟩ = some (.slice (some ⟨bb, oo, none⟩) own.length cap) := hB7.cell 2
            have q7 : w7.cell? ⟨bb, oo + i * 4 + 2, none⟩ = some (.int .u64 (ys : Nat)) := by
              obtain ⟨ad, e9, hab9, hcell⟩ := ((Reads.of_own hO4.out).below hb7).2 hop
              injection e9 with e9
              subst e9
              have := hcell _ _ hent.out
              rw [add_off] at this
              rw [← Nat.add_assoc] at this
              exact this
            have t77 : w7.cell? ⟨tb, 7, none⟩ = some (.int .u64 (ms : Nat)) := hT7.cell 7
            have hl7 := hT7.lt
            have hlg7 := hB7.lt
            have hz7 := hb7.size
            have hbb7 : bb < w7.heap.size := Nat.lt_of_lt_of_le hab' hz7
            by_cases h2 : ms < ys
            · have h2' : ((ms : Nat) : Int) < (ys : Nat) := by omega
              have hmax : max ms ys = ys := by omega
              rw [hmax] at hTn
              replace hTn := Lib.hid hTn
              have hxc := @Ext.cell
              refine wp_region_ext (by kernel_rfl) (by kernel_rfl) ?_
              repeat (go_big_quiet_step ((first | fail)))
              refine wpQuiet_nil ?_
              clear hxc
              intro wx hwx
              obtain ⟨x, hx⟩ := hwx
              have hb := x.below
              rw [← hx] at hb
              clear hx x
              have hT8 := hT7.below hb hl7
              have hb8 := hb7.trans (hb.mono hz7)
              have c28 : wx.cell? ⟨g, 2, none⟩ = some (.slice (some ⟨bb, oo, none⟩) own.length cap) := (hB7.below hb hlg7).cell 2
              have q8 : wx.cell? ⟨bb, oo + i * 4 + 2, none⟩ = some (.int .u64 (ys : Nat)) := (hb.cell (p := ⟨bb, oo + i * 4 + 2, none⟩) hbb7).trans q7
              have f8 := hT8.frozen 7
              have t88 : wx.cell? ⟨tb, 7, none⟩ = some (.int .u64 (ms : Nat)) := hT8.cell 7
              have hl8 := hT8.lt
              have hlg8 := (hB7.below hb hlg7).lt
              have hbb8 : bb < wx.heap.size := Nat.lt_of_lt_of_le hbb7 hb.size
              clear hb
              go_wp2_with fail
              exact ⟨⟨i + 1, by omega, by go_num, by rw [hTn.out]; exact hT8.set_ 7 (.int .u64 (ys : Nat)), hb8.setCell (p := ⟨tb, 7, none⟩) hzx _⟩, by first | omega | (simp only [intOf]; omega)⟩
            · have h2' : ¬ ((ms : Nat) : Int) < (ys : Nat) := by omega
              have hmax : max ms ys = ms := by omega
              rw [hmax] at hTn
              replace hTn := Lib.hid hTn
              have hxc := @Ext.cell
              refine wp_region_ext (by kernel_rfl) (by kernel_rfl) ?_
              repeat (go_big_quiet_step ((first | fail)))
              refine wpQuiet_nil ?_
              clear hxc
              intro wx hwx
              obtain ⟨x, hx⟩ := hwx
              have hb := x.below
              rw [← hx] at hb
              clear hx x
              go_wp2_with fail
              exact ⟨⟨i + 1, by omega, by go_num, by rw [hTn.out]; exact hT7.below hb hl7, hb7.trans (hb.mono hz7)⟩, by first | omega | (simp only [intOf]; omega)⟩
          · have h1' : ¬ ((ys : Nat) : Int) < (ls : Nat) := by omega
            have hmin : min ls ys = ls := by omega
            rw [hmin] at hTn
            go_wp2_with fail
            have hxc := @Ext.cell
            refine wp_region_ext (by kernel_rfl) (by kernel_rfl) ?_
            repeat (go_big_quiet_step ((first | fail)))
            refine wpQuiet_nil ?_
            clear hxc
            intro wx hwx
            obtain ⟨x, hx⟩ := hwx
            have hb := x.below
            rw [← hx] at hb
            clear hx x
            have hT7 := hT.below hb hlt6
            have hb7 := hbr.trans (hb.mono hzr)
            generalize hw7 : wx = w7 at *
            clear hb
            go_wp2_with fail
            have hB7 := hB4.below hb7 hl4
            have c27 : w7.cell? ⟨g, 2, none⟩ = some (.slice (some ⟨bb, oo, none⟩) own.length cap) := hB7.cell 2
            have q7 : w7.cell? ⟨bb, oo + i * 4 + 2, none⟩ = some (.int .u64 (ys : Nat)) := by
              obtain ⟨ad, e9, hab9, hcell⟩ := ((Reads.of_own hO4.out).below hb7).2 hop
              injection e9 with e9
              subst e9
              have := hcell _ _ hent.out
              rw [add_off] at this
              rw [← Nat.add_assoc] at this
              exact this
            have t77 : w7.cell? ⟨tb, 7, none⟩ = some (.int .u64 (ms : Nat)) := hT7.cell 7
            have hl7 := hT7.lt
            have hlg7 := hB7.lt
            have hz7 := hb7.size
            have hbb7 : bb < w7.heap.size := Nat.lt_of_lt_of_le hab' hz7
            by_cases h2 : ms < ys
            · have h2' : ((ms : Nat) : Int) < (ys : Nat) := by omega
              have hmax : max ms ys = ys := by omega
              rw [hmax] at hTn
              replace hTn := Lib.hid hTn
              have hxc := @Ext.cell
              refine wp_region_ext (by kernel_rfl) (by kernel_rfl) ?_
              repeat (go_big_quiet_step ((first | fail)))
              refine wpQuiet_nil ?_
              clear hxc
              intro wx hwx
              obtain ⟨x, hx⟩ := hwx
              have hb := x.below
              rw [← hx] at hb
              clear hx x
              have hT8 := hT7.below hb hl7
              have hb8 := hb7.trans (hb.mono hz7)
              have c28 : wx.cell? ⟨g, 2, none⟩ = some (.slice (some ⟨bb, oo, none⟩) own.length cap) := (hB7.below hb hlg7).cell 2
              have q8 : wx.cell? ⟨bb, oo + i * 4 + 2, none⟩ = some (.int .u64 (ys : Nat)) := (hb.cell (p := ⟨bb, oo + i * 4 + 2, none⟩) hbb7).trans q7
              have f8 := hT8.frozen 7
              have t88 : wx.cell? ⟨tb, 7, none⟩ = some (.int .u64 (ms : Nat)) := hT8.cell 7
              have hl8 := hT8.lt
              have hlg8 := (hB7.below hb hlg7).lt
              have hbb8 : bb < wx.heap.size := Nat.lt_of_lt_of_le hbb7 hb.size
              clear hb
              go_wp2_with fail
              exact ⟨⟨i + 1, by omega, by go_num, by rw [hTn.out]; exact hT8.set_ 7 (.int .u64 (ys : Nat)), hb8.setCell (p := ⟨tb, 7, none⟩) hzx _⟩, by first | omega | (simp only [intOf]; omega)⟩
            · have h2' : ¬ ((ms : Nat) : Int) < (ys : Nat) := by omega
              have hmax : max ms ys = ms := by omega
              rw [hmax] at hTn
              replace hTn := Lib.hid hTn
              have hxc := @Ext.cell
              refine wp_region_ext (by kernel_rfl) (by kernel_rfl) ?_
              repeat (go_big_quiet_step ((first | fail)))
              refine wpQuiet_nil ?_
              clear hxc
              intro wx hwx
              obtain ⟨x, hx⟩ := hwx
              have hb := x.below
              rw [← hx] at hb
              clear hx x
              go_wp2_with fail
              exact ⟨⟨i + 1, by omega, by go_num, by rw [hTn.out]; exact hT7.below hb hl7, hb7.trans (hb.mono hz7)⟩, by first | omega | (simp only [intOf]; omega)⟩
        · obtain rfl : i = own.length := by omega
          have hil' : ¬ ((own.length : Nat) : Int) < (own.length : Nat) := by omega
          rw [hX.out, tiM_end, ← hX.out] at hT
          have hRr := hR4.below hbr hR4.lt
          have hOr := hO4.out.below hbr
          have hkr := hk4.then_below hbr
          go_wp2_with fail
          obtain ⟨Xn, Xl, Xc, Xs, Xf, Xt, Xa, Xb⟩ := X
          have z0 : wr.cell? ⟨tb, 0, none⟩ = some (.int .u64 (Xn : Nat)) := hT.cell 0
          have z1 : wr.cell? ⟨tb, 1, none⟩ = some (.int .i64 Xl) := hT.cell 1
          have z2 : wr.cell? ⟨tb, 2, none⟩ = some (.int .i64 (Xc : Nat)) := hT.cell 2
          have z3 : wr.cell? ⟨tb, 3, none⟩ = some (.int .i64 (Xs : Nat)) := hT.cell 3
          have z4 : wr.cell? ⟨tb, 4, none⟩ = some (.string (bs Xf)) := hT.cell 4
          have z5 : wr.cell? ⟨tb, 5, none⟩ = some (.string (bs Xt)) := hT.cell 5
          have z6 : wr.cell? ⟨tb, 6, none⟩ = some (.int .u64 (Xa : Nat)) := hT.cell 6
          have z7 : wr.cell? ⟨tb, 7, none⟩ = some (.int .u64 (Xb : Nat)) := hT.cell 7
          have hTl := hT.lt
          have hDB : DBAt wr B g n lv own true (.slice (some ⟨bb, oo, none⟩) own.length cap) := ⟨hBg, hBr, hOr⟩
          have hext : (bs wk).extract told (bs wk).size = bs (wk.drop told) := by rw [ext_bs, bs_data, List.take_of_length_le]; simp [dlen, bs_size]
          have hwd' : told ≤ (bs wk).size := by omega
          replace hDB := Lib.hid hDB
          replace hext := Lib.hid hext
          clear hOr hT hBr
          have hxc := @Ext.cell
          have hxf := @Ext.frozen
          refine wp_hide (fun Q0 hQ0 => ?_)
          refine wp_region_line (fun w' => ∃ x : Ext _, w' = x.w) [some false, some false, some false, some false, some false, none, none] 0 (by kernel_rfl) (by kernel_rfl) ⟨⟨_, (Below.refl _ _).drew⟩, rfl⟩ ?_
          simp only [earlyL, tailL]
          repeat (first | ((with_reducible refine wpMix_p ?_); go_big_quiet_step (fail); refine wpQuiet_nil ?_) | ((with_reducible refine wpMix_e ?_); go_big_quiet_step ((first | fail)); refine wpQuiet_nil ?_))
          refine wpMix_nil ?_
          clear hxc hxf
          intro wx hwx
          obtain ⟨x, hx⟩ := hwx
          have hb := x.below
          rw [← hx] at hb
          clear hx x
          have hRx := hRr.below hb hRr.lt
          have hDx := hDB.out.below hb
          have hkx := hkr.then_below hb
          have x0 := hRx.cell 0
          have x1 := hRx.cell 1
          have x2 := hRx.cell 2
          have x3 := hRx.cell 3
          have x4 := hRx.cell 4
          have x5 := hRx.cell 5
          have x6 := hRx.cell 6
          have x7 := hRx.cell 7
          have u0 := hRx.frozen 0
          have u1 := hRx.frozen 1
          have u2 := hRx.frozen 2
          have u3 := hRx.frozen 3
          have u4 := hRx.frozen 4
          have u5 := hRx.frozen 5
          have u6 := hRx.frozen 6
          have u7 := hRx.frozen 7
          have ul := hRx.lt
          simp only [List.getElem?_toArray, List.getElem?_cons_zero, List.getElem?_cons_succ] at x0 x1 x2 x3 x4 x5 x6 x7
          clear z0 z1 z2 z3 z4 z5 z6 z7
          have hgw : g ≠ w.heap.size := by omega
          have hfinR := ti_set hRx ⟨Xn, Xl, Xc, Xs, Xf, Xt, Xa, Xb⟩
          have hKf := (((((((hkx.then_new (o := 0) (v := .int .u64 (Xn : Nat)) (Nat.le_refl _)).then_new (o := 1) (v := .int .i64 Xl) (Nat.le_refl _)).then_new (o := 2) (v := .int .i64 (Xc : Nat)) (Nat.le_refl _)).then_new (o := 3) (v := .int .i64 (Xs : Nat)) (Nat.le_refl _)).then_new (o := 4) (v := .string (bs Xf)) (Nat.le_refl _)).then_new (o := 5) (v := .string (bs Xt)) (Nat.le_refl _)).then_new (o := 6) (v := .int .u64 (Xa : Nat)) (Nat.le_refl _)).then_new (o := 7) (v := .int .u64 (Xb : Nat)) (Nat.le_refl _)
          have hDf := hDx.keptT hRx hgw ((((((((((KeptBut.refl wx (fun k => k = w.heap.size)).then_set (b := w.heap.size) (o := 0) (v := .int .u64 (Xn : Nat)) rfl).then_set (b := w.heap.size) (o := 1) (v := .int .i64 Xl) rfl).then_set (b := w.heap.size) (o := 2) (v := .int .i64 (Xc : Nat)) rfl).then_set (b := w.heap.size) (o := 3) (v := .int .i64 (Xs : Nat)) rfl).then_set (b := w.heap.size) (o := 4) (v := .string (bs Xf)) rfl).then_set (b := w.heap.size) (o := 5) (v := .string (bs Xt)) rfl).then_set (b := w.heap.size) (o := 6) (v := .int .u64 (Xa : Nat)) rfl).then_set (b := w.heap.size) (o := 7) (v := .int .u64 (Xb : Nat)) rfl))
          replace hfinR := Lib.hid hfinR
          replace hKf := Lib.hid hKf
          replace hDf := Lib.hid hDf
          clear hDx hkx
          refine wpTail_step ?_
          intro Q1 hQ1
          go_wp2_with (fail)
          refine hQ1 _ _ rfl (fun h => absurd h (by decide)) ?_
          clear hQ1 Q1
          refine wpTail_step ?_
          intro Q1 hQ1
          go_wp2_with (fail)
          refine hQ1 _ _ rfl (fun h => absurd h (by decide)) ?_
          clear hQ1 Q1
          refine wpTail_nil ?_
          refine hQ0 _ _ ?_
          clear hQ0 Q0
          go_wp2_with fail
          have hext2 : (bs wk).extract told wk.length = bs (docP own) := by rw [hwl.out, ← hext.out, hzw]
          try rw [hzw]
          rw [hext2]
          refine bodyPost_ret (v := .tuple #[.string (bs (docP own)), .agg (tiC ⟨Xn, Xl, Xc, Xs, Xf, Xt, Xa, Xb⟩), .int .i64 0]) ?_ rfl ?_
          · refine results_tct rfl _ _ w.heap.size _ _ _ ?_ ?_ ?_ ?_
            · rfl
            · rfl
            · rfl
            · exact load_ti hfinR.out rfl
          · refine ⟨by rw [hX.out], ?_⟩
            refine ⟨hDf.out, ?_⟩
            exact hKf.out
end Go.Proofs.YtfnlponoakhegaaDoor
