/- The law's awake, plain. Contracts of the law: small, awake. The law WalLasts: what is kept along its rounds. The law WalLasts. Package wal, plain: the logs behind a log that is begun and an Add, with the power on (for WalFull). No program in sight. Maps from pointers to pointers: as lists. Contracts: slices.Clone of bytes; a twin's file comes to life. Contracts: the function that makes a twin's file. Contracts: Twin: between its steps. -/
import Derived.Test.YtdbpfemkjfogoaaGreatDoorW14J
import Derived.Test.YtdbpfemkjfogoaaGreatDoorM15
import Derived.Test.YtdbpfemkjfogoaaGreatDoorM01
import Derived.MapKept
import Derived.LaidEql
import Derived.Lib.SliceRun
namespace Go.Proofs.YtdbpfemkjfogoaaGreatDoor
set_option linter.unusedVariables false
def wOp : OpE := ⟨[97], [120], false⟩
def wB0 : Dsk := Dsk.new 1048576
def wB1 : Dsk := (wB0.beginW 3).1
def wB2 : Dsk := (wB1.addW 3 ⟨1, [wOp]⟩).1
def wB3 : Dsk := wB2.setFuse 2
def wB4 : Dsk := (wB3.addW 3 ⟨2, [wOp]⟩).1
def wC : Cra := ⟨0, [31], []⟩
def wB5 : Dsk := wB4.crash wC
def wB6 : Dsk := wB5.start
theorem wa1 : (wB0.beginW 3).2 = 0 := by decide +kernel
theorem wa2 : (wB1.addW 3 ⟨1, [wOp]⟩).2 = 0 := by decide +kernel
theorem wa3 : (wB3.addW 3 ⟨2, [wOp]⟩).2 = 7 := by decide +kernel
theorem wa4 : wB6.logsW = [3] := by decide +kernel
theorem wa5 : wB6.off = false := by decide +kernel
theorem wa6 : wB6.names.map (·.1) = [nameW 3] := by decide +kernel
theorem wa7 : wB6.rawW = [3] := by decide +kernel
theorem wa8 : (wB6.replayW 0).1 = [⟨1, [wOp]⟩] := by kernel_rfl
theorem wa9 : (nameW 3 == []) = false := by decide +kernel
end Go.Proofs.YtdbpfemkjfogoaaGreatDoor
namespace Go.Proofs.YtdbpfemkjfogoaaGreatDoor
open Go.RowKit
set_option linter.unusedVariables false
set_option linter.unusedSimpArgs false
theorem wOp_at (w : World) : OpsR (w.alloc (.cells #[.string ⟨#[97]⟩, .string ⟨#[120]⟩, .bool false] 60)) (w.heap.size + 1) (some ⟨w.heap.size, 0, none⟩) [wOp] :=
  ⟨rfl, fun _ => ⟨_, rfl, by simp, fun j u hu => by
    rcases j with _ | _ | _ | j
    · simp [opsV, opL, wOp] at hu; subst hu; simp [go_sem, Addr.add]; rfl
    · simp [opsV, opL, wOp] at hu; subst hu; simp [go_sem, Addr.add]; rfl
    · simp [opsV, opL, wOp] at hu; subst hu; simp [go_sem, Addr.add]
    · simp [opsV, opL, wOp] at hu⟩⟩
set_option maxRecDepth 100000 in
set_option maxHeartbeats 1000000 in
theorem small_any (n : Nat) (w : World) : Calls Tryz.prog 20 #[.int .u64 (n : Nat)] w fun e w' => ∃ A, e = .returned (.agg #[.int .u64 (n : Nat), .slice A 1 1]) ∧ OpsR w' w'.heap.size A [wOp] ∧ Below w.heap.size w w' := by
  have g1 := Lib.hid ((Blk.new w 53 #[.int .u64 (n : Nat), .slice (some ⟨w.heap.size + 1, 0, none⟩) 1 1]).alloc (.cells #[.string ⟨#[97]⟩, .string ⟨#[120]⟩, .bool false] 60))
  have ho := wOp_at (w.alloc (.cells #[.int .u64 (n : Nat), .slice (some ⟨w.heap.size + 1, 0, none⟩) 1 1] 53))
  have hb : Below w.heap.size w ((w.alloc (.cells #[.int .u64 (n : Nat), .slice (some ⟨w.heap.size + 1, 0, none⟩) 1 1] 53)).alloc (.cells #[.string ⟨#[97]⟩, .string ⟨#[120]⟩, .bool false] 60)) := ((Below.refl _ _).alloc (Nat.le_refl _) _).alloc (by simp) _
  rw [World.size_alloc] at ho
  replace ho := Lib.hid ho
  replace hb := Lib.hid hb
  go_enter Tryz.func20, Tryz.ntmps20
  go_wp2_with fail
  refine bodyPost_ret (v := .agg #[.int .u64 (n : Nat), .slice (some ⟨w.heap.size + 1, 0, none⟩) 1 1]) (results_cell_row rfl _ _ w.heap.size 53 #[.int .u64 (n : Nat), .slice (some ⟨w.heap.size + 1, 0, none⟩) 1 1] (0, 0) _ rfl g1.out Tryz.underlying53 rfl (by kernel_rfl)) rfl ⟨_, rfl, Reads.more ho.out (by simp), hb.out⟩
theorem wC_at (w : World) (t : TypeId) : CraAt (w.alloc (.cells #[.int .i64 31] t)) wC (some ⟨w.heap.size, 0, none⟩) none :=
  ⟨⟨rfl, fun _ => ⟨_, rfl, by simp, fun j u hu => by
    have hj : j < 1 := (List.getElem?_eq_some_iff.1 hu).1
    match j, hj with
    | 0, _ => simp [keepV, wC] at hu; subst hu; simp [Addr.add]⟩⟩, Reads.none_, by decide, by decide, (fun x hx => by simp [wC] at hx; subst hx; omega), (fun x hx => by simp [wC] at hx)⟩
set_option maxRecDepth 100000 in
set_option maxHeartbeats 4000000 in
theorem wawake_any {w : World} (hG : Glo w) :
    Calls Tryz.prog 9 #[] w fun e w' => e = .returned (.bool true) ∧ Below w.heap.size w w' := by
  have hw7 := hG.size
  go_enter Tryz.func9, Tryz.ntmps9
  go_wp2_with fail
  refine (New_dx (X := fun k => k < w.heap.size) 1048576 w (fun k q => q)).mono ?_
  rintro e w1 ⟨d, rfl, h1, b1, hd1⟩
  have z1 := b1.size
  have G1 := hG.below b1 hw7
  have g0 : (Dsk.new 1048576).Good 0 := .new _
  have c2 := Begin_any h1 (fun k q => by omega) (fun k q => by omega) G1 g0 (by omega) 3 (by omega)
  replace c2 := Lib.hid c2
  go_wp2_with fail
  refine c2.out.mono ?_
  rintro e w2 ⟨hB, k2⟩
  have z2 := k2.size
  rcases hB with ⟨_, lg, rfl, hl2, hlg, h2⟩ | ⟨q, _, _⟩
  rotate_left
  · exact absurd wa1 q
  have G2 := G1.keeps k2 (fun k q => by omega)
  have b2 : Below w.heap.size w w2 := b1.trans (k2.below (fun k q => q))
  have g1 : wB1.Good 2 := g0.beginW 3
  have hlt2 := Blk.lt hl2
  change Dx _ w2 d wB1 at h2
  have cN := Lib.hid (LN_any hl2)
  have cs := Lib.hid (small_any 1 w2)
  replace hl2 := Lib.hid hl2
  go_wp2_with fail
  refine cN.out.mono ?_
  rintro e w2' ⟨rfl, rfl⟩
  go_wp2_with fail
  refine cs.out.mono ?_
  rintro e w3 ⟨A1, rfl, ho3, b3⟩
  have z3 := b3.size
  have h3 := h2.grow b3 (fun k => .inl)
  have k3 : Keeps (fun k => k < w.heap.size ∨ k = lg) w2 w3 := Keeps.of_below b3 (fun k q => by omega)
  have G3 := G2.keeps k3 (fun k q => by omega)
  have l3 := k3.blk hl2.out (.inr rfl)
  have c4 := Add_any h3 (fun k q => by omega) (fun k q => by omega) G3 g1 (by omega) (by omega) l3 (.inr rfl) 1 A1 1 w3.heap.size [wOp] (by omega) ho3 (Nat.le_refl _) (by decide)
  rw [wa2] at c4
  have b3' : Below w.heap.size w w3 := b2.trans (k3.below (fun k q => .inl q))
  replace c4 := Lib.hid c4
  replace l3 := Lib.hid l3
  clear hl2 b1 b2 b3 k2 h1 h2 cN cs c2 G1 G2 k3 ho3 h3
  go_wp2_with fail
  refine c4.out.mono ?_
  rintro e w4 ⟨rfl, h4, k4⟩
  have z4 := k4.size
  change Dx _ w4 d wB2 at h4
  have G4 := G3.keeps k4 (fun k q => by omega)
  have l4 := k4.blk l3.out (.inr rfl)
  have b4 : Below w.heap.size w w4 := b3'.trans (k4.below (fun k q => .inl q))
  have g2 : wB2.Good _ := g1.addW 3 ⟨1, [wOp]⟩
  have c5 := Lib.hid (Fuse_dx h4 (fun k q => by omega) 2)
  replace l4 := Lib.hid l4
  clear l3 c4 G3 k4 h4 b3'
  go_wp2_with fail
  refine c5.out.mono ?_
  rintro e w5 ⟨rfl, h5, k5⟩
  have z5 := k5.size
  change Dx _ w5 d wB3 at h5
  have G5 := G4.keeps k5 (fun k q => by omega)
  have l5 := k5.blk l4.out (.inr rfl)
  have b5 : Below w.heap.size w w5 := b4.trans (k5.below (fun k q => .inl q))
  have g3 : wB3.Good _ := g2.setFuse (n := 2) (by omega)
  have cs := Lib.hid (small_any 2 w5)
  replace l5 := Lib.hid l5
  clear l4 c5 G4 k5 b4
  go_wp2_with fail
  refine cs.out.mono ?_
  rintro e w6 ⟨A2, rfl, ho6, b6⟩
  have z6 := b6.size
  have h6 := h5.grow b6 (fun k => .inl)
  have k6 : Keeps (fun k => k < w.heap.size ∨ k = lg) w5 w6 := Keeps.of_below b6 (fun k q => by omega)
  have G6 := G5.keeps k6 (fun k q => by omega)
  have l6 := k6.blk l5.out (.inr rfl)
  have b6' : Below w.heap.size w w6 := b5.trans (k6.below (fun k q => .inl q))
  have c7 := Add_any h6 (fun k q => by omega) (fun k q => by omega) G6 g3 (by omega) (by omega) l6 (.inr rfl) 2 A2 1 w6.heap.size [wOp] (by omega) ho6 (Nat.le_refl _) (by decide)
  rw [wa3] at c7
  replace c7 := Lib.hid c7
  clear h5 G5 l5 b5 cs b6 h6 k6 l6 ho6
  go_wp2_with fail
  refine c7.out.mono ?_
  rintro e w7 ⟨rfl, h7, k7⟩
  have z7 := k7.size
  change Dx _ w7 d wB4 at h7
  have G7 := G6.keeps k7 (fun k q => by omega)
  have b7 : Below w.heap.size w w7 := b6'.trans (k7.below (fun k q => .inl q))
  have g4 : wB4.Good _ := g3.addW 3 ⟨2, [wOp]⟩
  clear c7 G6 k7 b6'
  go_wp2_with fail
  have hal : Below w7.heap.size w7 (w7.alloc (.cells #[.int .i64 31] 3)) := (Below.refl _ _).alloc (Nat.le_refl _) _
  have h7b : Dx (fun k => (k < w.heap.size ∨ k = lg) ∨ k = w7.heap.size) (w7.alloc (.cells #[.int .i64 31] 3)) d wB4 := h7.grow hal (fun k q => q.imp id (fun e => by omega))
  have G7b := G7.below hal (by omega)
  have c8 := Crash_dx h7b (fun k q => by rw [World.size_alloc]; omega) g4 (by omega) wC (some ⟨w7.heap.size, 0, none⟩) none 1 0 (wC_at w7 3) (fun ad e => by
    rcases e with ⟨_, e⟩ | ⟨_, e⟩
    · injection e with e
      subst e
      exact .inr rfl
    · cases e)
  unfold craV at c8
  simp only [wC, List.length_singleton, List.length_nil] at c8
  have b7b : Below w.heap.size w (w7.alloc (.cells #[.int .i64 31] 3)) := b7.trans (hal.mono (by omega))
  have z7b : (w7.alloc (.cells #[.int .i64 31] 3)).heap.size = w7.heap.size + 1 := by simp
  generalize w7.alloc (.cells #[.int .i64 31] 3) = w7b at *
  replace c8 := Lib.hid c8
  clear h7 hal h7b G7 b7
  refine c8.out.mono ?_
  rintro e w8 ⟨rfl, h8, k8⟩
  have z8 := k8.size
  change Dx _ w8 d wB5 at h8
  have G8 := G7b.keeps k8 (fun k q => by omega)
  have b8 : Below w.heap.size w w8 := b7b.trans (k8.below (fun k q => .inl (.inl q)))
  have g5 : wB5.Good _ := g4.crash wC
  have c9 := Lib.hid (Start_dx h8 (fun k q => by omega))
  clear c8 G7b k8 b7b
  go_wp2_with fail
  refine c9.out.mono ?_
  rintro e w9 ⟨rfl, h9, k9⟩
  have z9 := k9.size
  change Dx _ w9 d wB6 at h9
  have G9 := G8.keeps k9 (fun k q => by omega)
  have b9 : Below w.heap.size w w9 := b8.trans (k9.below (fun k q => .inl (.inl q)))
  have g6 : wB6.Good _ := g5.start
  have hnm : ∀ p ∈ wB6.names, p.1 ≠ [] := fun p hp e => by
    have : p.1 ∈ wB6.names.map (·.1) := List.mem_map_of_mem hp
    rw [wa6, List.mem_singleton] at this
    have h9 := wa9
    rw [← this, e] at h9
    cases h9
  have hnl : wB6.names.length ≤ 20000 := by
    have := congrArg List.length wa6
    rw [List.length_map] at this
    rw [this]
    decide
  have hps : wB6.rawW.Pairwise (· ≤ ·) := by rw [wa7]; exact List.pairwise_singleton _ _
  have c10 := Lib.hid (Replay_any h9 G9 g6 (by omega) hnl hnm hps wa5 0)
  clear c9 G8 h8 k9 b8
  go_wp2_with fail
  refine c10.out.mono ?_
  rintro e w10 ⟨v, l, rfl, hm, hl, b10⟩
  rw [wa8] at hl
  obtain ⟨x, rfl⟩ : ∃ x, l = [x] := by
    have := congrArg List.length hl
    rw [List.length_map] at this
    exact List.length_eq_one_iff.1 this
  have hxb : x.b = ⟨1, [wOp]⟩ := by
    rw [List.map_singleton] at hl
    injection hl
  have z10 := b10.size
  have h10 := h9.grow b10 (fun k => .inl)
  have G10 := G9.below b10 (by omega)
  have b10' : Below w.heap.size w w10 := b9.trans (b10.mono (by omega))
  have c11 := Logs_any h10 G10 g6 (by omega) hps
  rw [wa4] at c11
  obtain ⟨A, c, rfl⟩ := hm.form
  obtain ⟨bb, oo, hAe, hbb, hcell⟩ := row_at (k := 0) (x := x) mbC_len (by decide) (Reads.of_own hm.row) rfl
  have q0 : w10.cell? ⟨bb, oo + 0 * 2, none⟩ = some (.int .u64 (x.b.seq : Nat)) := hcell 0 _ rfl
  have q1 : w10.cell? ⟨bb, oo + 0 * 2 + 1, none⟩ = some x.v := hcell 1 _ rfl
  have hop := hm.ops x (List.mem_singleton_self x)
  obtain ⟨A3, c3, hv⟩ := hop.form
  rw [hv] at hop q1
  obtain ⟨_, hor⟩ := hop.opsR
  rw [hxb] at q0 q1 hor
  obtain ⟨ba, pa, hae, hba, a0, a1, a2⟩ := OpsR.at_ (k := 0) (o := wOp) hor rfl
  rw [hAe]
  rw [hae] at q1
  rw [Nat.zero_mul, Nat.add_zero] at q0 q1 a1
  replace c11 := Lib.hid c11
  replace hm := Lib.hid hm
  replace hop := Lib.hid hop
  replace hor := Lib.hid hor
  replace hAe := Lib.hid hAe
  replace hae := Lib.hid hae
  replace hxb := Lib.hid hxb
  replace hl := Lib.hid hl
  replace hv := Lib.hid hv
  clear hcell c10 h9 G9 b9 b10 a0 a2
  go_wp2_with fail
  refine c11.out.mono ?_
  rintro e w11 ⟨v2, rfl, hu, b11⟩
  have z11 := b11.size
  have r0 : w11.cell? ⟨bb, oo, none⟩ = some (.int .u64 1) := (b11.cell (p := ⟨bb, oo, none⟩) hbb).trans q0
  have r1 : w11.cell? ⟨bb, oo + 1, none⟩ = some (.slice (some ⟨ba, pa, none⟩) 1 c3) := (b11.cell (p := ⟨bb, oo + 1, none⟩) hbb).trans q1
  have r2 : w11.cell? ⟨ba, pa + 1, none⟩ = some (.string ⟨#[120]⟩) := (b11.cell (p := ⟨ba, pa + 1, none⟩) hba).trans a1
  obtain ⟨A4, c4, rfl⟩ : ∃ A c, v2 = .slice A 1 c := by
    rcases hu.2 with ⟨_, e⟩ | ⟨g, cap, cur, e, _⟩
    · cases e
    · exact ⟨_, cap, e⟩
  obtain ⟨b4, o4, hA4, hb4, hc4⟩ := row_at (k := 0) (x := 3) (l := [3]) (f := fun n : Nat => [Value.int .u64 (n : Nat)]) (m := 1) (fun _ => rfl) (by decide) (show Reads w11 w11.heap.size 1 A4 1 ([3].flatMap fun n : Nat => [Value.int .u64 (n : Nat)]) from Reads.of_own hu) rfl
  have r3 : w11.cell? ⟨b4, o4 + 0 * 1, none⟩ = some (.int .u64 3) := hc4 0 _ rfl
  rw [Nat.zero_mul, Nat.add_zero] at r3
  rw [hA4]
  have hfin : Below w.heap.size w w11 := b10'.trans (b11.mono (by omega))
  have hl1 : bb < w11.heap.size := by omega
  have hl2 : ba < w11.heap.size := by omega
  replace hfin := Lib.hid hfin
  replace hA4 := Lib.hid hA4
  replace hu := Lib.hid hu
  clear hc4 q0 q1 a1 b11 b10' G10 h10 c11
  go_wp2_with fail
  go_ret
  exact ⟨rfl, hfin.out⟩
theorem goW_len : ∀ (r : List (BatE × Bool)) (s : Dsk) (n : Nat), (goW r s n).2.1.length ≤ r.length
  | [], s, n => Nat.le_refl 0
  | (b, w) :: r, s, n => by
    unfold goW
    simp only
    generalize (if w = true then s.nextW else (s, 0)) = x
    generalize (if w = true then nextN s.logsW else n) = n1
    by_cases h1 : x.2 = 7
    · rw [if_pos h1]; exact Nat.zero_le _
    · rw [if_neg h1]
      by_cases h2 : (x.1.addW n1 b).2 = 7
      · rw [if_pos h2]; exact Nat.zero_le _
      · rw [if_neg h2]
        have := goW_len r (x.1.addW n1 b).1 n1
        simp only [List.length_cons]
        split
        · simp only [List.length_cons]; omega
        · omega
theorem goesW_len (s : Dsk) (f : Int) (r : List (BatE × Bool)) : (goesW s f r).2.1.length ≤ r.length := by
  unfold goesW
  split
  · exact Nat.zero_le _
  · exact goW_len _ _ _
theorem mb_form {w : World} {B : Nat} {v : Value} {l : List MB} (h : w.ownsRow B 53 2 v l.length (mbV l)) : ∃ A cap, v = .slice A l.length cap := by
  rcases h.2 with ⟨rfl, e⟩ | ⟨g, cap, cur, rfl, _⟩
  · exact ⟨none, 0, by rw [e]⟩
  · exact ⟨_, cap, rfl⟩
/-- Behind the append of some batches to those that are held to be there. -/
theorem have_arm {X : Nat → Prop} {W w6 : World} {d N : Nat} {s : Dsk} {hv v2 : Value} {H T H1 : List MB} (hH1 : H1 = H ++ T) (hD : Dx X W d s) (hX : ∀ k, X k → k < W.heap.size) (hN : ∀ k, k < N → X k) (hNW : N ≤ W.heap.size)
    (hh : W.ownsRow N 53 2 hv H.length (mbV H)) (hin : ∀ k, hv.ownBlock = some k → X k)
    (ho6 : w6.ownsRow N 53 2 v2 (H.length + T.length) (mbV H ++ mbV T)) (hg6 : W.grownBy w6 hv.ownBlock) (hat : v2.ownBlock = hv.ownBlock ∨ v2.ownBlock = some W.heap.size) :
    ∃ A2 c2, v2 = .slice A2 H1.length c2 ∧ Hid (Below N W w6 ∧ Dx (fun k => X k ∨ (Value.slice A2 H1.length c2).ownBlock = some k) w6 d s ∧ w6.ownsRow N 53 2 (.slice A2 H1.length c2) H1.length (mbV H1) ∧
      (∀ k, (Value.slice A2 H1.length c2).ownBlock = some k → N ≤ k ∧ k < w6.heap.size) ∧ (∀ k, k < W.heap.size → hv.ownBlock ≠ some k → w6.heap[k]? = W.heap[k]?) ∧ W.heap.size ≤ w6.heap.size) := by
  subst hH1
  have hT : w6.ownsRow N 53 2 v2 (H ++ T).length (mbV (H ++ T)) := by
    unfold mbV
    rw [List.length_append, List.flatMap_append]
    exact ho6
  obtain ⟨A2, c2, rfl⟩ := mb_form hT
  refine ⟨A2, c2, rfl, Lib.hid ⟨(Below.refl N W).grown hg6 hNW (fun k e => (own_lt hh k e).1), ?_, hT, own_lt hT, fun k hk hne => hg6.block k hk (fun e => hne e.symm), hg6.size⟩⟩
  have hk : KeptBut W w6 (fun k => hv.ownBlock = some k) := ⟨hg6.os, hg6.tape, hg6.output, hg6.size, fun k hk hs => hg6.block k hk (fun e => hs e.symm)⟩
  obtain ⟨F, L, hL, hF⟩ := hD
  refine ⟨F, L, hL.kept hk (fun k hf hs => (hF k hf).2 (hin k hs)), fun k hf => ⟨by have := (hF k hf).1; have := hk.size; omega, fun q => ?_⟩⟩
  rcases q with q | q
  · exact (hF k hf).2 q
  · rcases hat with e | e
    · rw [e] at q
      exact (hF k hf).2 (hin k q)
    · rw [e] at q
      injection q with q
      have := (hF k hf).1
      omega
/-- Between two rounds. -/
structure LawI (N : Nat) (w wr : World) (d : Nat) (hv : Value) (H : List MB) (s : Dsk) (i : Nat) : Prop where
  below : Below N w wr
  dx : Dx (fun k => k < N ∨ hv.ownBlock = some k) wr d s
  row : wr.ownsRow N 53 2 hv H.length (mbV H)
  bet : ∃ l M, BetW s l M ∧ H.map (·.b) = contW l ∧ M ≤ 21 * i
  good : s.Good (101 * i)
  each : ∀ x ∈ H, ArgM N w x ∧ x.b.ops.length ≤ 60
  len : H.length ≤ 21 * i
theorem LawI.hX {N : Nat} {w wr : World} {d : Nat} {hv : Value} {H : List MB} {s : Dsk} {i : Nat} (h : LawI N w wr d hv H s i) (hN : N ≤ w.heap.size) : ∀ k, (k < N ∨ hv.ownBlock = some k) → k < wr.heap.size := fun k q => by
  rcases q with q | q
  · have := h.below.size; omega
  · exact (own_lt h.row k q).2
theorem LawI.start {w w1 : World} {d : Nat} {room : Int} (hD : Dx (fun k => k < w.heap.size) w1 d (Dsk.new room)) (hb : Below w.heap.size w w1) : LawI w.heap.size w w1 d (.slice none 0 0) [] (Dsk.new room) 0 :=
  ⟨hb, hD.less (fun k _ q => by rcases q with q | q; exact q; cases q), World.ownsRow_nil _ _ _ _, ⟨[], 0, BetW.new room, rfl, Nat.le_refl _⟩, .new room, (fun x hx => by cases hx), Nat.zero_le _⟩
theorem mb_one {l : List MB} (h : ∀ x ∈ l, ∃ A n c, x.v = .slice A n c) : ∀ u ∈ mbV l, u.oneCell' = true := fun u hu => by
  obtain ⟨x, hx, hu⟩ := List.mem_flatMap.1 hu
  obtain ⟨A, n, c, e⟩ := h x hx
  simp [mbC] at hu
  rcases hu with rfl | rfl
  · rfl
  · rw [e]; rfl
theorem ReadM.of_own {w : World} {B : Nat} {x : MB} (h : OwnO w B x.v x.b.ops) : ReadM w w.heap.size x := by
  obtain ⟨A, c, e⟩ := h.form
  rw [e] at h
  exact ⟨A, c, e, h.opsR.2⟩
theorem ReadM.of_arg {w w' : World} {N : Nat} {x : MB} (h : ArgM N w x) (hb : Below N w w') (hN : N ≤ w'.heap.size) : ReadM w' w'.heap.size x := by
  obtain ⟨A, c, e, hr⟩ := (h.below hb (Nat.le_refl _)).at_
  exact ⟨A, c, e, Reads.more hr hN⟩
theorem OwnM.far2 {w w' : World} {B C : Nat} {v row : Value} {l : List MB} (h : OwnM w B v l) (hC : ∀ k, row.ownBlock = some k → k < B) (hb : ∀ k, k < w.heap.size → row.ownBlock ≠ some k → w'.heap[k]? = w.heap[k]?) : OwnM w' B v l :=
  ⟨own_block h.row fun k hk => hb k (own_lt h.row k hk).2 (fun e => by have := hC k e; have := (own_lt h.row k hk).1; omega), fun x hx => own_block (h.ops x hx) fun k hk => hb k (own_lt (h.ops x hx) k hk).2 (fun e => by have := hC k e; have := (own_lt (h.ops x hx) k hk).1; omega)⟩
set_option maxRecDepth 100000 in
set_option maxHeartbeats 8000000 in
theorem lasts_any (w : World) (hG : Glo w) (room : Int) (A : Option Addr) (l : List RM) (cap : Nat) (h : RmsAt w.heap.size w A l) :
    Calls Tryz.prog 3 #[.int .i64 room, .slice A l.length cap] w fun e w' => e = .returned (.bool true) ∧ Below w.heap.size w w' := by
  obtain ⟨i0, hi0, hz0, hz1, hz2⟩ := info_parts bat_info
  have hgr := Lib.hid (greatR_any w A l cap h (Nat.le_refl _))
  replace h := Lib.hid h
  replace hG := Lib.hid hG
  go_enter Tryz.func3, Tryz.ntmps3
  go_wp2_with fail
  refine hgr.out.mono ?_
  rintro e w1 ⟨rb, rfl, hrb, hb1⟩
  have hz1' := hb1.size
  cases rb with
  | true =>
    have haw := Lib.hid (wawake_any (hG.out.below hb1 hG.out.size))
    replace hb1 := Lib.hid hb1
    clear hrb
    go_wp2_with fail
    refine haw.out.mono ?_
    rintro e w2 ⟨rfl, hb2⟩
    have hfin : Below w.heap.size w w2 := hb1.out.trans (hb2.mono hz1')
    replace hfin := Lib.hid hfin
    clear hb2
    go_wp2_with fail
    go_ret
    exact ⟨rfl, hfin.out⟩
  | false =>
    obtain ⟨hl8, hsm⟩ := hrb rfl
    clear hrb
    replace hsm := Lib.hid hsm
    have hnew := Lib.hid (New_dx (X := fun k => k < w.heap.size) room w1 (fun k q => by omega))
    replace hb1 := Lib.hid hb1
    go_wp2_with fail
    refine hnew.out.mono ?_
    rintro e w2 ⟨d, rfl, hD2, hb2, hd2⟩
    have hI0 := Lib.hid (LawI.start hD2 (hb1.out.trans (hb2.mono hz1')))
    clear hb2 hD2 hnew hgr
    go_wp2_with fail
    go_loopw [6, 7, 8, 9, 10, 11] (fun hv iv tv uv gv ev wr => ∃ (i : Nat) (hA : Option Addr) (hk : Nat) (H : List MB) (s : Dsk), i ≤ l.length ∧ iv = .int .i64 (i : Nat) ∧ hv = .slice hA H.length hk ∧ LawI w.heap.size w wr d (.slice hA H.length hk) H s i) (fun _ iv _ _ _ _ _ => l.length - (intOf iv).toNat)
    case atStart => exact ⟨0, none, 0, [], _, Nat.zero_le _, rfl, rfl, hI0.out⟩
    case round =>
      obtain ⟨i, hA, hk, H, s, hi, rfl, rfl, hI⟩ := hrel
      have hbr := hI.below
      have hwz := hbr.size
      have hGr := hG.out.below hbr hG.out.size
      by_cases hlt : i < l.length
      · have hlt' : (i : Int) < l.length := by omega
        have hxi := List.getElem?_eq_getElem hlt
        have hok := h.out.ok _ (List.getElem_mem hlt)
        have hrs := hsm.out _ (List.getElem_mem hlt)
        obtain ⟨b, o, hAe, hbN, q0, q1, q2, q3, q4, q5⟩ := (h.out.below hbr (Nat.le_refl _)).at_ hxi
        generalize l[i] = r at *
        obtain ⟨hr1, hr2, ⟨hr3, hr4⟩, hr5⟩ := hrs
        obtain ⟨l0, M, hB, hHl, hM⟩ := hI.bet
        have hbl : b < wr.heap.size := by omega
        have hgo := Lib.hid (goes_any (N0 := w.heap.size) (hI.hX (Nat.le_refl _)) (fun k q => .inl q) hG.out.size hwz hI.dx hGr hI.good (by omega) (hok.below hbr (Nat.le_refl _)) hr5 hr1 hr2 hB.cl hB.off hB.num (by omega))
        have hpl : r.plain.bats.length = r.bats.length := by simp [RM.plain]
        obtain ⟨l', hB', hcont, hrep, hu1⟩ := hB.round r.plain hok.fuse.1 (by rw [hpl]; omega)
        have htl := goesW_len s r.fuse r.plain.rows
        rw [rows_len, hpl] at htl
        unfold haveW at hcont
        simp only at hcont
        have hu1' : (goesW s r.fuse r.plain.rows).2.2.length ≤ 1 := hu1
        have hrowI := hI.row
        have heach := hI.each
        have hlenI := hI.len
        have hIX := hI.hX (Nat.le_refl _)
        rw [hAe]
        replace hAe := Lib.hid hAe
        replace hxi := Lib.hid hxi
        replace hok := Lib.hid hok
        replace hr5 := Lib.hid hr5
        replace hbr := Lib.hid hbr
        replace hGr := Lib.hid hGr
        replace hI := Lib.hid hI
        replace hB := Lib.hid hB
        replace hHl := Lib.hid hHl
        replace hcont := Lib.hid hcont
        replace hrep := Lib.hid hrep
        replace hrowI := Lib.hid hrowI
        replace heach := Lib.hid heach
        clear hu1
        go_wp2_with fail
        refine hgo.out.mono ?_
        rintro e w2 ⟨X, tv, uv, told, under, rfl, hF⟩
        obtain ⟨tA, tc, rfl⟩ := hF.go.form
        obtain ⟨uA, uc, rfl⟩ := mb_form hF.row
        have hkp := hF.go.keep
        have hy2 := hkp.size
        have hb2 : Below w.heap.size w w2 := hbr.out.trans (hkp.below (fun k q => .inl q))
        have htold : told.length ≤ r.bats.length := by
          have := congrArg List.length hF.eqT
          rw [List.length_map] at this
          omega
        have hund : under.length ≤ 1 := by
          have := congrArg List.length hF.eqU
          rw [List.length_map] at this
          omega
        have p3 := (hkp.cell (o := o + i * 6 + 3) (.inl hbN)).trans q3
        have p4 := (hkp.cell (o := o + i * 6 + 4) (.inl hbN)).trans q4
        have p5 := (hkp.cell (o := o + i * 6 + 5) (.inl hbN)).trans q5
        have hbl2 : b < w2.heap.size := by omega
        have hcr := Crash_dx hF.go.dx hF.go.hX hF.good (by omega) r.cr r.KA r.PA r.kc r.pc ((hok.out.cr.below hb2 (Nat.le_refl _)).at_ (by omega) hr3 hr4) (fun ad e => hF.go.sub _ (.inl (hok.out.cr.under (Nat.le_refl _) ad e)))
        unfold craV at hcr
        replace hcr := Lib.hid hcr
        replace hF := Lib.hid hF
        replace hb2 := Lib.hid hb2
        replace hkp := Lib.hid hkp
        clear q0 q1 q2 q3 q4 q5 hgo
        go_wp2_with fail
        refine hcr.out.mono ?_
        rintro e w3 ⟨rfl, hD3, hk3⟩
        have hz3 := hk3.size
        have hst := Lib.hid (Start_dx hD3 (fun k q => by have := hF.out.go.hX k q; omega))
        replace hk3 := Lib.hid hk3
        replace hD3 := Lib.hid hD3
        clear p3 p4 p5 hcr
        go_wp2_with fail
        refine hst.out.mono ?_
        rintro e w4 ⟨rfl, hD4, hk4⟩
        have hz4 := hk4.size
        have hfu := Lib.hid (Fuse_dx hD4 (fun k q => by have := hF.out.go.hX k q; omega) 0)
        replace hk4 := Lib.hid hk4
        clear hst hD3 hD4
        go_wp2_with fail
        refine hfu.out.mono ?_
        rintro e w5 ⟨rfl, hD5, hk5⟩
        have hz5 := hk5.size
        change Dx X w5 d (afterW s r.plain) at hD5
        have hg' : (afterW s r.plain).Good (101 * i + 100 + 1) := ((hF.out.good.crash r.cr).start).setFuse (n := 0) (by omega)
        have hk25 : Keeps X w2 w5 := (hk3.out.trans hk4.out (fun _ => id)).trans hk5 (fun _ => id)
        have hrow5 := hk25.own (hkp.out.own hrowI.out (fun k q => .inr q)) (fun k q => hF.out.go.sub k (.inr q))
        have htr5 := hk25.own hF.out.go.row hF.out.go.inX
        have hur5 := hk25.own hF.out.row hF.out.inX
        have hread5 := Reads.of_own htr5
        have hb5 : Below w.heap.size w w5 := hb2.out.trans (hk25.below (fun k q => hF.out.go.sub k (.inl q)))
        obtain ⟨H1, hH1⟩ : ∃ H1, H1 = H ++ told := ⟨_, rfl⟩
        have hH1l : H1.length = H.length + told.length := by rw [hH1, List.length_append]
        have hH1le : H1.length ≤ 21 * i + 20 := by omega
        have hH1ge : H.length + told.length ≤ H1.length := by omega
        replace hH1l := Lib.hid hH1l
        have hH1v : ∀ x ∈ told, ArgM w.heap.size w x ∧ x.b.ops.length ≤ 60 := fun x hx => ⟨hok.out.each x (hF.out.memT x hx), hr5.out x (hF.out.memT x hx)⟩
        have hUv : ∀ x ∈ under, ArgM w.heap.size w x ∧ x.b.ops.length ≤ 60 := fun x hx => ⟨hok.out.each x (hF.out.memU x hx), hr5.out x (hF.out.memU x hx)⟩
        have heach1 : ∀ x ∈ H1, ArgM w.heap.size w x ∧ x.b.ops.length ≤ 60 := fun x hx => by
          rw [hH1] at hx
          rcases List.mem_append.1 hx with hx | hx
          · exact heach.out x hx
          · exact hH1v x hx
        have hX5 : ∀ k, X k → k < w5.heap.size := fun k q => by have := hF.out.go.hX k q; omega
        have hN5 : ∀ k, k < w.heap.size → X k := fun k q => hF.out.go.sub k (.inl q)
        have hin5 : ∀ k, (Value.slice hA H.length hk).ownBlock = some k → X k := fun k q => hF.out.go.sub k (.inr q)
        have hone := mb_one (l := told) (fun x hx => by
          obtain ⟨A, c, e, _⟩ := (hH1v x hx).1.at_
          exact ⟨A, _, c, e⟩)
        have honeU := mb_one (l := under) (fun x hx => by
          obtain ⟨A, c, e, _⟩ := (hUv x hx).1.at_
          exact ⟨A, _, c, e⟩)
        have hNw5 : w.heap.size ≤ w5.heap.size := by omega
        replace hD5 := Lib.hid hD5
        replace hrow5 := Lib.hid hrow5
        replace hur5 := Lib.hid hur5
        replace hread5 := Lib.hid hread5
        replace hH1 := Lib.hid hH1
        replace hH1v := Lib.hid hH1v
        replace hUv := Lib.hid hUv
        replace heach1 := Lib.hid heach1
        replace hX5 := Lib.hid hX5
        replace hN5 := Lib.hid hN5
        replace hin5 := Lib.hid hin5
        replace hone := Lib.hid hone
        replace honeU := Lib.hid honeU
        replace hb5 := Lib.hid hb5
        clear hk3 hk4 hk5 hfu hk25 htr5
        go_wp2_with (at_builtin; refine wpList_append_any _ rfl (.tmp 43) (.tmp 44) _ rfl w.heap.size 53 i0 _ 2 32 Tryz.underlying27 hi0 hz0 hz1 hz2 rfl (by omega) _ H.length (mbV H) rfl hrow5.out w5.heap.size tA told.length tc (mbV told) rfl hread5.out hone.out ?c2 ?c3 hNw5 ?_; rotate_left 2; intro v2 w6 ho6 hg6 hat6; obtain ⟨A2, c2, rfl, hall⟩ := have_arm hH1.out hD5.out hX5.out hN5.out hNw5 hrow5.out hin5.out ho6 hg6 hat6; clear ho6 hg6 hat6)
        case c2 => simp only [maxLen]; omega
        case c3 => omega
        obtain ⟨hb6, hD6, hrow6, hown6, hbk6, hz6⟩ := hall.out
        have hb6' : Below w.heap.size w w6 := hb5.out.trans hb6
        have hur6 : w6.ownsRow wr.heap.size 53 2 (.slice uA under.length uc) under.length (mbV under) := own_block hur5.out fun k q => hbk6 k (own_lt hur5.out k q).2 (fun e => by have := (own_lt hur5.out k q).1; have := (own_lt hrowI.out k e).2; omega)
        have hgw := Lib.hid (Replay_any hD6 (hG.out.below hb6' hG.out.size) hg' (by omega) (by have := hg'.names; omega) hB'.cl.ne (hB'.cl.raws hB'.dir hD6.rising hB'.num (by rw [hpl]; omega)).1 hB'.off 0)
        replace hD6 := Lib.hid hD6
        replace hrow6 := Lib.hid hrow6
        replace hown6 := Lib.hid hown6
        replace hur6 := Lib.hid hur6
        replace hb6' := Lib.hid hb6'
        replace hB' := Lib.hid hB'
        clear hb6 hbk6 hall hrow5 hur5 hread5 hD5 hone
        go_wp2_with fail
        refine hgw.out.mono ?_
        rintro e w7 ⟨gv, gl, rfl, hgm, hgl, hb7⟩
        obtain ⟨gA, gc, rfl⟩ := hgm.form
        rw [hrep.out] at hgl
        simp only at hgl
        have hz7 := hb7.size
        have hD7 := hD6.out.grow hb7 (fun k => .inl)
        have hrow7 := own_below2 hrow6.out hb7
        have hur7 := own_below2 hur6.out hb7
        have hb7' : Below w.heap.size w w7 := hb6'.out.trans (hb7.mono (by omega))
        have hcnt : gl.length = (contW l').length := by rw [← hgl, List.length_map]
        have hH1b : H1.map (·.b) = contW l0 ++ (goesW s r.fuse r.plain.rows).2.1 := by rw [hH1.out, List.map_append, hHl.out, hF.out.eqT]
        have hU1 : under.map (·.b) = (goesW s r.fuse r.plain.rows).2.2 := hF.out.eqU
        have hc2 := hcont.out
        rw [hrep.out] at hc2
        simp only at hc2
        rw [show (goesW s r.plain.fuse r.plain.rows) = goesW s r.fuse r.plain.rows from rfl, ← hH1b, ← hU1, List.length_map, List.length_map, ← hcnt] at hc2
        replace hgl := Lib.hid hgl
        replace hb7' := Lib.hid hb7'
        replace hcnt := Lib.hid hcnt
        clear hb7 hgw hur6 hD6 hb6' hrow6 hH1b
        by_cases hcmp : gl.length = H1.length + under.length
        · have hcmp' : ((gl.length : Nat) : Int) ≤ H1.length + under.length := by omega
          have hcmp2 : ((H1.length : Nat) : Int) + under.length ≤ gl.length := by omega
          rw [if_pos hcmp] at hc2
          obtain ⟨H2, hH2e⟩ : ∃ H2, H2 = H1 ++ under := ⟨_, rfl⟩
          have hH2 : H2.map (·.b) = contW l' := by rw [hH2e, List.map_append, hc2]
          have hH2l : H2.length = H1.length + under.length := by rw [hH2e, List.length_append]
          have hH2le : H2.length ≤ 21 * i + 21 := by omega
          replace hH2l := Lib.hid hH2l
          have heach2 : ∀ x ∈ H2, ArgM w.heap.size w x ∧ x.b.ops.length ≤ 60 := fun x hx => by
            rw [hH2e] at hx
            rcases List.mem_append.1 hx with hx | hx
            · exact heach1.out x hx
            · exact hUv.out x hx
          have hread7 := Reads.of_own hur7
          have hX7 : ∀ k, (X k ∨ (Value.slice A2 H1.length c2).ownBlock = some k) → k < w7.heap.size := fun k q => by
            rcases q with q | q
            · have := hX5.out k q; omega
            · exact (own_lt hrow7 k q).2
          have hNw7 : w.heap.size ≤ w7.heap.size := by omega
          have hN7 : ∀ k, k < w.heap.size → (X k ∨ (Value.slice A2 H1.length c2).ownBlock = some k) := fun k q => .inl (hN5.out k q)
          replace hcmp := Lib.hid hcmp
          replace hH2e := Lib.hid hH2e
          replace hH2 := Lib.hid hH2
          replace heach2 := Lib.hid heach2
          replace hread7 := Lib.hid hread7
          replace hX7 := Lib.hid hX7
          replace hN7 := Lib.hid hN7
          replace hrow7 := Lib.hid hrow7
          replace hD7 := Lib.hid hD7
          replace hgm := Lib.hid hgm
          replace hU1 := Lib.hid hU1
          clear hc2 hur7
          go_wp2_with (at_builtin; refine wpList_append_any _ rfl (.tmp 61) (.tmp 62) _ rfl w.heap.size 53 i0 _ 2 32 Tryz.underlying27 hi0 hz0 hz1 hz2 rfl (by omega) _ H1.length (mbV H1) rfl hrow7.out w7.heap.size uA under.length uc (mbV under) rfl hread7.out honeU.out ?c2 ?c3 hNw7 ?_; rotate_left 2; intro v2 w8 ho8 hg8 hat8; obtain ⟨A5, c5, rfl, hall⟩ := have_arm hH2e.out hD7.out hX7.out hN7.out hNw7 hrow7.out (fun k => .inr) ho8 hg8 hat8; clear ho8 hg8 hat8)
          case c2 => simp only [maxLen]; omega
          case c3 => omega
          obtain ⟨hb8', hD8, hrow8, hown8, hbk8, hz8'⟩ := hall.out
          have hb8 : Below w.heap.size w w8 := hb7'.out.trans hb8'
          replace hgm := hgm.out.far2 (C := 0) (row := .slice A2 H1.length c2) (fun k q => by have := (hown6.out k q).2; omega) hbk8
          replace heach2 := heach2.out
          replace hH2 := hH2.out
          have hXf : ∀ k, (k < w.heap.size ∨ (Value.slice A5 H2.length c5).ownBlock = some k) → ((X k ∨ (Value.slice A2 H1.length c2).ownBlock = some k) ∨ (Value.slice A5 H2.length c5).ownBlock = some k) := fun k q => q.imp (fun q => .inl (hN5.out k q)) id
          replace hXf := Lib.hid hXf
          clear hb8' hbk8 hall hown8
          have hlen : gl.length = (H2).length := by
            have := congrArg List.length (hgl.out.trans hH2.symm)
            rw [List.length_map, List.length_map] at this
            exact this
          rw [hlen] at hgm
          rw [hlen]
          have hz8 := hb8.size
          have hgv := Lib.hid (given_any (c := c5) (Reads.of_own hrow8) (Nat.le_refl _) (fun x hx => by
            obtain ⟨A, c, e, _⟩ := (heach2 x hx).1.at_
            exact ⟨A, c, e⟩) (by omega))
          replace hlen := Lib.hid hlen
          replace hgm := Lib.hid hgm
          replace hrow8 := Lib.hid hrow8
          replace hD8 := Lib.hid hD8
          replace hH2 := Lib.hid hH2
          replace hb8 := Lib.hid hb8
          replace heach2 := Lib.hid heach2
          go_wp2_with fail
          refine hgv.out.mono ?_
          rintro e w9 ⟨A3, c3, rfl, hrow9, hb9⟩
          have hz9 := hb9.size
          have hD9 := hD8.out.grow hb9 (fun k => .inl)
          have hrow89 := own_below2 hrow8.out hb9
          have hgm9 := hgm.out.below hb9
          have hb9' : Below w.heap.size w w9 := hb8.out.trans (hb9.mono (by omega))
          have hhe : gl.map (·.b) = (H2).map (·.b) := hgl.out.trans hH2.out.symm
          have hsame := Lib.hid (BSame_any (ca := gc) (cb := c3) (n := (H2).length) (Reads.of_own (hlen.out ▸ hgm9.row)) (Reads.of_own hrow9) (Nat.le_refl _) hlen.out rfl (by omega) (fun x hx => .of_own (hgm9.ops x hx)) (fun x hx => .of_arg (heach2.out x hx).1 hb9' (by omega)) hhe (fun x hx => by
            have : x.b ∈ (H2).map (·.b) := hhe ▸ List.mem_map_of_mem hx
            obtain ⟨y, hy, e⟩ := List.mem_map.1 this
            have := (heach2.out y hy).2
            rw [← e]
            omega))
          replace hD9 := Lib.hid hD9
          replace hrow89 := Lib.hid hrow89
          replace hb9' := Lib.hid hb9'
          clear hrow9 hb9 hgm9 hgv hhe
          go_wp2_with fail
          refine hsame.out.mono ?_
          rintro e w10 ⟨rfl, hb10⟩
          have hfin : LawI w.heap.size w w10 d (.slice A5 (H2).length c5) H2 (afterW s r.plain) (i + 1) :=
            ⟨hb9'.out.trans (hb10.mono (by omega)), (hD9.out.grow hb10 (fun k => .inl)).less (fun k _ q => q.elim (fun q => hXf.out k (.inl q)) (fun q => hXf.out k (.inr q))), own_below2 hrow89.out hb10, ⟨l', _, hB', hH2.out, by rw [hpl]; omega⟩, hg'.more (by omega), heach2.out, by omega⟩
          replace hfin := Lib.hid hfin
          clear hb10
          go_wp2_with fail
          exact ⟨⟨i + 1, _, _, H2, _, by omega, by go_num, rfl, hfin.out⟩, by simp [intOf]; omega⟩
        · have hcmp' : ¬ ((gl.length : Nat) : Int) = H1.length + under.length := by omega
          rw [if_neg hcmp] at hc2
          have hH2 : H1.map (·.b) = contW l' := hc2.symm
          have hH2le : H1.length ≤ 21 * i + 21 := by omega
          have hun : 0 < under.length := by
            have := congrArg List.length (hgl.out.trans hH2.symm)
            rw [List.length_map, List.length_map] at this
            omega
          have hun' : (0 : Int) < under.length := by omega
          have hD8 := hD7
          have hrow8 := hrow7
          have hb8 := hb7'.out
          have heach2 := heach1.out
          have hXf : ∀ k, (k < w.heap.size ∨ (Value.slice A2 H1.length c2).ownBlock = some k) → (X k ∨ (Value.slice A2 H1.length c2).ownBlock = some k) := fun k q => q.imp (fun q => hN5.out k q) id
          replace hXf := Lib.hid hXf
          replace hcmp := Lib.hid hcmp
          clear hD7 hrow7 hc2 hur7
          have hlen : gl.length = (H1).length := by
            have := congrArg List.length (hgl.out.trans hH2.symm)
            rw [List.length_map, List.length_map] at this
            exact this
          rw [hlen] at hgm
          rw [hlen]
          have hz8 := hb8.size
          have hgv := Lib.hid (given_any (c := c2) (Reads.of_own hrow8) (Nat.le_refl _) (fun x hx => by
            obtain ⟨A, c, e, _⟩ := (heach2 x hx).1.at_
            exact ⟨A, c, e⟩) (by omega))
          replace hlen := Lib.hid hlen
          replace hgm := Lib.hid hgm
          replace hrow8 := Lib.hid hrow8
          replace hD8 := Lib.hid hD8
          replace hH2 := Lib.hid hH2
          replace hb8 := Lib.hid hb8
          replace heach2 := Lib.hid heach2
          go_wp2_with fail
          refine hgv.out.mono ?_
          rintro e w9 ⟨A3, c3, rfl, hrow9, hb9⟩
          have hz9 := hb9.size
          have hD9 := hD8.out.grow hb9 (fun k => .inl)
          have hrow89 := own_below2 hrow8.out hb9
          have hgm9 := hgm.out.below hb9
          have hb9' : Below w.heap.size w w9 := hb8.out.trans (hb9.mono (by omega))
          have hhe : gl.map (·.b) = (H1).map (·.b) := hgl.out.trans hH2.out.symm
          have hsame := Lib.hid (BSame_any (ca := gc) (cb := c3) (n := (H1).length) (Reads.of_own (hlen.out ▸ hgm9.row)) (Reads.of_own hrow9) (Nat.le_refl _) hlen.out rfl (by omega) (fun x hx => .of_own (hgm9.ops x hx)) (fun x hx => .of_arg (heach2.out x hx).1 hb9' (by omega)) hhe (fun x hx => by
            have : x.b ∈ (H1).map (·.b) := hhe ▸ List.mem_map_of_mem hx
            obtain ⟨y, hy, e⟩ := List.mem_map.1 this
            have := (heach2.out y hy).2
            rw [← e]
            omega))
          replace hD9 := Lib.hid hD9
          replace hrow89 := Lib.hid hrow89
          replace hb9' := Lib.hid hb9'
          clear hrow9 hb9 hgm9 hgv hhe
          go_wp2_with fail
          refine hsame.out.mono ?_
          rintro e w10 ⟨rfl, hb10⟩
          have hfin : LawI w.heap.size w w10 d (.slice A2 (H1).length c2) H1 (afterW s r.plain) (i + 1) :=
            ⟨hb9'.out.trans (hb10.mono (by omega)), (hD9.out.grow hb10 (fun k => .inl)).less (fun k _ q => q.elim (fun q => hXf.out k (.inl q)) (fun q => hXf.out k (.inr q))), own_below2 hrow89.out hb10, ⟨l', _, hB', hH2.out, by rw [hpl]; omega⟩, hg'.more (by omega), heach2.out, by omega⟩
          replace hfin := Lib.hid hfin
          clear hb10
          go_wp2_with fail
          exact ⟨⟨i + 1, _, _, H1, _, by omega, by go_num, rfl, hfin.out⟩, by simp [intOf]; omega⟩
      · have hlt' : ¬ (i : Int) < l.length := by omega
        have haw := Lib.hid (wawake_any hGr)
        replace hbr := Lib.hid hbr
        replace hI := Lib.hid hI
        replace hGr := Lib.hid hGr
        go_wp2_with fail
        refine haw.out.mono ?_
        rintro e w2 ⟨rfl, hb2⟩
        have hfin : Below w.heap.size w w2 := hbr.out.trans (hb2.mono hwz)
        replace hfin := Lib.hid hfin
        clear hb2
        go_wp2_with fail
        go_ret
        exact ⟨rfl, hfin.out⟩
end Go.Proofs.YtdbpfemkjfogoaaGreatDoor
namespace Go.Proofs.YtdbpfemkjfogoaaGreatDoor
set_option linter.unusedVariables false
set_option linter.unusedSimpArgs false
/-- A disk that may be replayed. -/
structure RepW (s : Dsk) (M : Nat) : Prop where
  cl : ∃ l, Cl s l ∧ ∀ q ∈ l, q.1 ≤ M
  dir : s.Dir
  off : s.off = false
theorem full_rep {s : Dsk} {l : List LogE} {M : Nat} (h : BetW s l M) (hf : s.fuse = 0) (hb : M + 1 < 18446744073709551615) (b : BatE) :
    RepW s.nextW.1 (M + 1) ∧ RepW (s.nextW.1.addW (nextN s.logsW) b).1 (M + 1) := by
  obtain ⟨a1, a2⟩ := next_above h.cl M h.num
  unfold Dsk.nextW
  rw [h.cl.logs h.dir]
  generalize nextN (l.map (·.1)) = n2 at *
  have okb := h.ok.beginW n2
  have hdb := h.dir.beginW h.ok n2
  obtain ⟨c1, c2, c3⟩ := beginW_calm h.off hf n2
  rcases h.cl.begin h.ok h.off a1 (by omega) with ⟨e, hof, hC⟩ | ⟨e, _⟩
  · have hn : ∀ (bs : List UInt8), ∀ q ∈ l ++ [((n2, s.files.length, bs) : LogE)], q.1 ≤ M + 1 := fun bs q hq => by
      rcases List.mem_append.1 hq with hq | hq
      · have := h.num q hq; omega
      · rw [List.mem_singleton.1 hq]; exact a2
    have h1 : RepW (s.beginW n2).1 (M + 1) := ⟨⟨_, hC, hn _⟩, hdb, hof⟩
    refine ⟨h1, ?_⟩
    by_cases hc : chkB b = 0
    · have hC2 : Cl (s.beginW n2).1 (l ++ [(n2, s.files.length, logL [])]) := hC
      rcases hC2.add hof hc with ⟨e1, ho1, hA⟩ | ⟨e1, es⟩ | ⟨e1, _⟩
      · exact ⟨⟨_, hA, hn _⟩, hdb.addW n2 b, ho1⟩
      · rw [es]; exact h1
      · exact absurd e1 (addW_calm hof c3 n2 b)
    · have ea : (s.beginW n2).1.addW n2 b = ((s.beginW n2).1, chkB b) := by unfold Dsk.addW; rw [if_neg hc]
      rw [ea]
      exact h1
  · exact absurd e c1
theorem decB_chk {s : List UInt8} {b : BatE} (h : decB s = some b) : chkB b = 0 := by
  unfold decB at h
  split at h
  · cases h
  · split at h
    · cases h
    · split at h
      · cases h
      · split at h
        · cases h
        · split at h
          · rename_i hc
            injection h with h
            rw [← h]
            exact hc.2
          · cases h
theorem batsL_chk : ∀ (rs : List (List UInt8)), ∀ b ∈ batsL rs, chkB b = 0
  | [], b, h => by cases h
  | r :: rs, b, h => by
    unfold batsL at h
    cases hd : decB r with
    | none => rw [hd] at h; cases h
    | some x =>
      rw [hd] at h
      rcases List.mem_cons.1 h with rfl | h
      · exact decB_chk hd
      · exact batsL_chk rs b h
theorem contW_chk {l : List LogE} : ∀ b ∈ contW l, chkB b = 0 := fun b h => by
  obtain ⟨q, _, h⟩ := List.mem_flatMap.1 h
  exact batsL_chk _ b h
theorem chk_len {b : BatE} (h : chkB b = 0) : b.ops.length ≤ 16 := by
  unfold chkB at h
  split at h
  · cases h
  · rename_i h1
    rcases Nat.lt_or_ge 16 b.ops.length with q | q
    · exact absurd (.inl q) h1
    · exact q
end Go.Proofs.YtdbpfemkjfogoaaGreatDoor
namespace Go.Proofs.YtdbpfemkjfogoaaGreatDoor
open Go.RowKit
set_option linter.unusedVariables false
set_option linter.unusedSimpArgs false
def ptr (b : Nat) : Value := .pointer (some ⟨b, 0, none⟩)
def getP (a : Nat) (m : List (Nat × Nat)) : Option Nat := (m.find? fun p => p.1 == a).map (·.2)
def CellsAt (w : World) (b : Nat) : Prop := ∃ cs t, w.heap[b]? = some (.cells cs t (0, 0))
def PM (w : World) (g : Nat) (m : List (Nat × Nat)) : Prop := ∃ es clock, w.heap[g]? = some (.map es clock) ∧ es.toList.map (fun e => (e.key, e.val)) = m.map fun p => (ptr p.1, ptr p.2)
section
variable {P : Program} {w : World} {kt te : TypeId} {j : TypeInfo}
theorem equalIn_ptr (d : Nat) (ht : P.underlying kt = some (.pointer te)) (hj : P.info? te = some j) (hs : j.size ≠ 0) {a b : Nat} (ha : CellsAt w a) (hb : CellsAt w b) : (Op.equalIn (d + 1) kt (ptr a) (ptr b)).run P w = .ok (a == b) w := by
  obtain ⟨ca, ta, ha⟩ := ha
  obtain ⟨cb, tb, hb⟩ := hb
  by_cases e : a = b
  · subst e
    simp [ptr, Op.equalIn, run_underlying ht, sizeOf, typeInfo, hj, hs, run_sameAddr_same, Result.andThen]
  · have hne : (⟨a, 0, none⟩ : Addr) ≠ ⟨b, 0, none⟩ := fun h => e (by injection h)
    have hq := run_sameAddr_other (P := P) w hne ha hb
    simp [ptr, Op.equalIn, run_underlying ht, sizeOf, typeInfo, hj, hs, hq, e, Result.andThen]
theorem equal_ptr (ht : P.underlying kt = some (.pointer te)) (hj : P.info? te = some j) (hs : j.size ≠ 0) {a b : Nat} (ha : CellsAt w a) (hb : CellsAt w b) : (Op.equal kt (ptr a) (ptr b)).run P w = .ok (a == b) w := equalIn_ptr 9999 ht hj hs ha hb
theorem equalIn_none (d : Nat) (ht : P.underlying kt = some (.pointer te)) (b : Nat) : (Op.equalIn (d + 1) kt (.pointer none) (ptr b)).run P w = .ok false w := by
  simp [ptr, Op.equalIn, run_underlying ht, Result.andThen]
theorem equal_none (ht : P.underlying kt = some (.pointer te)) (b : Nat) : (Op.equal kt (.pointer none) (ptr b)).run P w = .ok false w := equalIn_none 9999 ht b
theorem asking_ptr (ht : P.underlying kt = some (.pointer te)) (hj : P.info? te = some j) (hs : j.size ≠ 0) {b : Nat} (hb : CellsAt w b) : ∀ (es : List MapEntry) (m : List (Nat × Nat)) (i : Nat), es.map (fun e => (e.key, e.val)) = m.map (fun p => (ptr p.1, ptr p.2)) → (∀ p ∈ m, CellsAt w p.1) →
    ∃ r, (Instr.findAsking kt (ptr b) es i).run P w = .ok r w ∧ r.map (·.2) = (getP b m).map ptr
  | [], [], i, _, _ => ⟨none, by simp [Instr.findAsking], rfl⟩
  | [], p :: m, i, h, _ => by simp at h
  | e :: es, [], i, h, _ => by simp at h
  | e :: es, p :: m, i, h, hc => by
    simp only [List.map_cons, List.cons.injEq, Prod.mk.injEq] at h
    obtain ⟨⟨h1, h2⟩, h3⟩ := h
    have hq := equal_ptr ht hj hs hb (hc p (by simp))
    unfold Instr.findAsking
    rw [h1]
    simp only [Sem.run_bind, hq, Result.andThen]
    by_cases hbp : b = p.1
    · refine ⟨some (i, e.val), by simp [hbp], ?_⟩
      unfold getP
      rw [List.find?_cons, show (p.1 == b) = true from by simpa using hbp.symm]
      simp [h2]
    · obtain ⟨r, hr, hm⟩ := asking_ptr ht hj hs hb es m (i + 1) h3 (fun q hq => hc q (List.mem_cons_of_mem _ hq))
      refine ⟨r, ?_, ?_⟩
      · rw [show (b == p.1) = false from by simpa using hbp]
        simpa using hr
      · rw [hm]
        unfold getP
        rw [List.find?_cons, show (p.1 == b) = false from by simpa using fun e => hbp e.symm]
theorem asking_none (ht : P.underlying kt = some (.pointer te)) : ∀ (es : List MapEntry) (m : List (Nat × Nat)) (i : Nat), es.map (fun e => (e.key, e.val)) = m.map (fun p => (ptr p.1, ptr p.2)) → (Instr.findAsking kt (.pointer none) es i).run P w = .ok none w
  | [], _, i, _ => by simp [Instr.findAsking]
  | e :: es, [], i, h => by simp at h
  | e :: es, p :: m, i, h => by
    simp only [List.map_cons, List.cons.injEq, Prod.mk.injEq] at h
    obtain ⟨⟨h1, h2⟩, h3⟩ := h
    unfold Instr.findAsking
    rw [h1]
    simp only [Sem.run_bind, equal_none ht, Result.andThen]
    simpa using asking_none ht es m (i + 1) h3
theorem now_ptr (k : Value) (e : MapEntry) (es : List MapEntry) : Instr.findNow (.pointer te) k (e :: es) 0 = none := by
  simp [Instr.findNow, Instr.sameNow]
theorem find_ptr (ht : P.underlying kt = some (.pointer te)) (hj : P.info? te = some j) (hs : j.size ≠ 0) {b : Nat} (hb : CellsAt w b) {es : List MapEntry} {m : List (Nat × Nat)} (h : es.map (fun e => (e.key, e.val)) = m.map (fun p => (ptr p.1, ptr p.2))) (hc : ∀ p ∈ m, CellsAt w p.1) :
    ∃ r, (Instr.findKey kt (ptr b) es).run P w = .ok r w ∧ r.map (·.2) = (getP b m).map ptr := by
  cases es with
  | nil =>
    cases m with
    | nil => exact ⟨none, by simp [Instr.findKey, run_underlying ht, Result.andThen, Instr.findNow], rfl⟩
    | cons p m => simp at h
  | cons e es =>
    obtain ⟨r, hr, hm⟩ := asking_ptr ht hj hs hb (e :: es) m 0 h hc
    refine ⟨r, ?_, hm⟩
    simp [Instr.findKey, run_underlying ht, Result.andThen, now_ptr, hr]
theorem find_none (ht : P.underlying kt = some (.pointer te)) {es : List MapEntry} {m : List (Nat × Nat)} (h : es.map (fun e => (e.key, e.val)) = m.map (fun p => (ptr p.1, ptr p.2))) : (Instr.findKey kt (.pointer none) es).run P w = .ok none w := by
  cases es with
  | nil => simp [Instr.findKey, run_underlying ht, Result.andThen, Instr.findNow]
  | cons e es => simp [Instr.findKey, run_underlying ht, Result.andThen, now_ptr, asking_none ht (e :: es) m 0 h]
theorem checkN_ptr (n : Nat) (ht : P.underlying kt = some (.pointer te)) (e : Bool) (x : Option Addr) : (Instr.checkKey e (n + 1) kt (.pointer x)).run P w = .ok () w := by
  unfold Instr.checkKey
  simp [run_underlying ht, Result.andThen]
theorem check_ptr (ht : P.underlying kt = some (.pointer te)) (e : Bool) (x : Option Addr) : (Instr.checkKey e 10000 kt (.pointer x)).run P w = .ok () w := checkN_ptr 9999 ht e x
theorem PM.lt {g : Nat} {m : List (Nat × Nat)} (h : PM w g m) : g < w.heap.size := by
  obtain ⟨es, c, h1, _⟩ := h
  rcases Nat.lt_or_ge g w.heap.size with h' | h'
  · exact h'
  · rw [Array.getElem?_eq_none h'] at h1; cases h1
theorem PM.new (w : World) : PM (w.alloc (.map #[] 0)) w.heap.size [] := ⟨#[], 0, (MapKept.heap_alloc w _).1, rfl⟩
theorem PM.block {w' : World} {g : Nat} {m : List (Nat × Nat)} (h : PM w g m) (hb : w'.heap[g]? = w.heap[g]?) : PM w' g m := by
  obtain ⟨es, c, h1, h2⟩ := h
  exact ⟨es, c, hb.trans h1, h2⟩
theorem PM.look {t et : TypeId} {g : Nat} {m : List (Nat × Nat)} (h : PM w g m) (hT : P.underlying t = some (.map kt et)) (ht : P.underlying kt = some (.pointer te)) (hj : P.info? te = some j) (hs : j.size ≠ 0) (hz : (zeroValue et).run P w = .ok (.pointer none) w) {b : Nat} (hb : CellsAt w b) (hc : ∀ p ∈ m, CellsAt w p.1) :
    (Instr.lookup t (.map (some g)) (ptr b) false).run P w = .ok (ptrV (getP b m)) w := by
  obtain ⟨es, c, h1, h2⟩ := h
  obtain ⟨r, hr, hm⟩ := find_ptr ht hj hs hb h2 hc
  have hck := fun e => check_ptr (P := P) (w := w) ht e (some ⟨b, 0, none⟩)
  have hg := MapKept.run_getObj_map (P := P) h1
  unfold ptr at hr ⊢
  unfold Instr.lookup
  simp only [Sem.run_bind, run_underlying hT, Result.andThen, hg, Sem.run_pure, hck, hr]
  cases r with
  | none =>
    cases hgp : getP b m with
    | none => simp [hz, Result.andThen, ptrV]
    | some v => rw [hgp] at hm; simp at hm
  | some x =>
    cases hgp : getP b m with
    | none => rw [hgp] at hm; simp at hm
    | some v =>
      rw [hgp] at hm
      simp at hm
      simp [hm, Result.andThen, ptrV, ptr]
theorem PM.look_nil {t et : TypeId} {g : Nat} {m : List (Nat × Nat)} (h : PM w g m) (hT : P.underlying t = some (.map kt et)) (ht : P.underlying kt = some (.pointer te)) (hz : (zeroValue et).run P w = .ok (.pointer none) w) :
    (Instr.lookup t (.map (some g)) (.pointer none) false).run P w = .ok (.pointer none) w := by
  obtain ⟨es, c, h1, h2⟩ := h
  have hr := find_none (P := P) (w := w) ht h2
  have hck := fun e => check_ptr (P := P) (w := w) ht e none
  have hg := MapKept.run_getObj_map (P := P) h1
  unfold Instr.lookup
  simp only [Sem.run_bind, run_underlying hT, Result.andThen, hg, Sem.run_pure, hck, hr]
  simp [hz, Result.andThen]
theorem PM.store {t et : TypeId} {g : Nat} {m : List (Nat × Nat)} (h : PM w g m) (hT : P.underlying t = some (.map kt et)) (ht : P.underlying kt = some (.pointer te)) (hj : P.info? te = some j) (hs : j.size ≠ 0) {b v : Nat} (hb : CellsAt w b) (hc : ∀ p ∈ m, CellsAt w p.1) (hn : getP b m = none) :
    ∃ w', (Instr.mapUpdate t (.map (some g)) (ptr b) (ptr v)).run P w = .ok () w' ∧ PM w' g (m ++ [(b, v)]) ∧ KeptBut w w' (fun k => k = g) := by
  obtain ⟨es, c, h1, h2⟩ := h
  obtain ⟨r, hr, hm⟩ := find_ptr ht hj hs hb h2 hc
  rw [hn] at hm
  have hr0 : r = none := by cases r with | none => rfl | some x => simp at hm
  subst hr0
  have hck := fun e => check_ptr (P := P) (w := w) ht e (some ⟨b, 0, none⟩)
  have hg := MapKept.run_getObj_map (P := P) h1
  have hset := MapKept.run_setObj_map (P := P) (.map (es.push { key := ptr b, val := ptr v, born := c }) (c + 1)) h1
  have hp := MapKept.heap_set (o' := .map (es.push { key := ptr b, val := ptr v, born := c }) (c + 1)) h1
  refine ⟨{ w with heap := w.heap.setIfInBounds g (.map (es.push { key := ptr b, val := ptr v, born := c }) (c + 1)) }, ?_, ⟨_, _, hp.1, ?_⟩, ⟨rfl, rfl, rfl, by simp, fun k hk hne => hp.2 k hne⟩⟩
  · unfold ptr at hr hset ⊢
    unfold Instr.mapUpdate
    simp only [Sem.run_bind, run_underlying hT, Result.andThen, hg, hck, hr, hset]
  · simp [h2]
end
theorem own_empty (w : World) (t : TypeId) : (w.alloc (.cells #[] t)).ownsRow w.heap.size t 1 (.slice (some ⟨w.heap.size, 0, none⟩) 0 0) 0 [] :=
  ⟨rfl, .inr ⟨w.heap.size, 0, #[], rfl, Nat.le_refl _, heap_alloc_new _ _, Nat.le_refl _, by unfold maxLen; omega, rfl, rfl⟩⟩
set_option maxRecDepth 100000 in
set_option maxHeartbeats 1000000 in
theorem cloneB_any {w : World} {v : Value} {l : List UInt8} (h : OwnB w 0 v l) (hl : l.length ≤ 1048576) :
    Calls Tryz.prog 78 #[v] w fun e w' => ∃ v', e = .returned v' ∧ OwnB w' w.heap.size v' l ∧ Below w.heap.size w w' := by
  obtain ⟨i0, hi0, hz0, hz1, hz2⟩ := info_parts u8_info
  obtain ⟨A, cap, rfl⟩ := h.form
  have eN : ∀ (W : World) (a : Option Addr) (n c : Nat), (binOp .eql 97 (.slice a n c) (.slice none 0 0)).run Tryz.prog W = .ok (.bool a.isNone) W := fun W a n c => Lib.run_eql_slice_nil W _ _ a n c 0 0 Tryz.underlying97
  cases A with
  | none =>
    have hl0 : l = [] := by
      rcases h.2 with ⟨_, hn⟩ | ⟨g, cap', cur, e, _⟩
      · exact List.eq_nil_of_length_eq_zero hn
      · cases e
    subst hl0
    have hc0 : cap = 0 := by
      rcases h.2 with ⟨e, _⟩ | ⟨g, cap', cur, e, _⟩
      · injection e with _ _ e3
      · cases e
    subst hc0
    go_enter Tryz.func78, Tryz.ntmps78
    go_wp2_with fail
    go_ret
    exact ⟨_, rfl, OwnB.nil _ _, Below.refl _ _⟩
  | some a =>
    have hr := (h.reads).2
    have hr1 := hr.alloc (Nat.le_refl _) (.cells #[] 5)
    have hown := own_empty w 5
    have hone : ∀ u ∈ l.map B8, u.oneCell' = true := by
      intro u hu
      obtain ⟨c, _, rfl⟩ := List.mem_map.1 hu
      rfl
    replace hone := Lib.hid hone
    go_enter Tryz.func78, Tryz.ntmps78
    go_wp2_with (at_builtin; refine wpList_append_any _ rfl (.tmp 5) (.tmp 6) 97 rfl w.heap.size 5 i0 (.int .u8 0) 1 1 Tryz.underlying97 hi0 hz0 hz1 hz2 rfl (by omega) (.slice (some ⟨w.heap.size, 0, none⟩) 0 0) 0 [] rfl hown w.heap.size (some a) l.length cap (l.map B8) rfl hr1 hone.out (by unfold maxLen; omega) (by omega) (by simp) ?_; intro v2 w2 hown2 hgr2 hat2)
    have hO : OwnB w2 w.heap.size v2 l := by unfold OwnB; simpa using hown2
    have hB : Below w.heap.size w w2 := ((KeptBut.of_below ((Below.refl w.heap.size w).alloc (Nat.le_refl _) (.cells #[] 5)) (S := fun k => w.heap.size ≤ k)).then_grown hgr2 (fun k e => by injection e with e; subst e; exact Nat.le_refl _)).below (fun k hk => hk) (Nat.le_refl _)
    replace hO := Lib.hid hO
    replace hB := Lib.hid hB
    clear hown2 hgr2 hat2 hown hr1
    go_wp2_with fail
    go_ret
    exact ⟨_, rfl, hO.out, hB.out⟩
section
variable {w w' : World} {F : Nat → Prop} {d : Nat} {L : Lay} {s : Dsk}
/-- A file that was dead has a box and a row. -/
theorem DskAt.revive (h : DskAt w F d L s) {i : Nat} {f : Fil} (hi : s.files[i]? = some f) (hdead : L.dead i) {b : Nat} {v : Value} (hb : Blk w b 99 #[v, .int .i64 f.k]) (ho : OwnB w 0 v f.d)
    (hbn : ∀ j, j < s.files.length → ¬ L.dead j → L.blk j ≠ b) (hvn : ∀ j, j < s.files.length → ¬ L.dead j → ∀ k, (L.row j).ownBlock = some k → v.ownBlock ≠ some k) :
    DskAt w (fun k => F k ∨ k = b ∨ v.ownBlock = some k) d { L with blk := fun j => if j = i then b else L.blk j, row := fun j => if j = i then v else L.row j, dead := fun j => L.dead j ∧ j ≠ i } s := by
  obtain ⟨f1, f2, f3, f4, f5⟩ := h.inF
  have ln : ∀ p ∈ s.names, p.2 ≠ i := fun p hp e => h.live.1 p hp (e ▸ hdead)
  have ll : ∀ p ∈ s.last, p.2 ≠ i := fun p hp e => h.live.2.1 p hp (e ▸ hdead)
  have lc : ∀ c ∈ s.chg, ∀ j, c.f = some j → j ≠ i := fun c hc j hj e => h.live.2.2.1 c hc j hj (e ▸ hdead)
  have nd : ∀ j, ¬ (L.dead j ∧ j ≠ i) → j ≠ i → ¬ L.dead j := fun j h1 h2 h3 => h1 ⟨h3, h2⟩
  refine ⟨h.box, ?_, ?_, ?_, fun j g hj hd => ?_, ⟨.inl f1, .inl f2, .inl f3, fun k e => .inl (f4 k e), fun j hj hd => ?_⟩, h.ne, fun a c ha hc da dc e => ?_, ⟨fun p hp e => h.live.1 p hp e.1, fun p hp e => h.live.2.1 p hp e.1, fun c hc j hj e => h.live.2.2.1 c hc j hj e.1, fun j hj => h.live.2.2.2 j hj.1⟩, fun a c k ha hc da dc e1 e2 => ?_⟩
  · rw [mvM_congr (g' := L.blk) (fun p hp => by simp only [if_neg (ln p hp)])]
    exact h.names
  · rw [mvM_congr (g' := L.blk) (fun p hp => by simp only [if_neg (ll p hp)])]
    exact h.last
  · rw [chgV_congr (g' := L.blk) (fun c hc j hj => by simp only [if_neg (lc c hc j hj)])]
    exact h.chg
  · by_cases e : j = i
    · subst e
      rw [hi] at hj
      injection hj with hj
      subst hj
      dsimp only
      rw [if_pos rfl, if_pos rfl]
      exact ⟨hb, ho⟩
    · dsimp only
      rw [if_neg e, if_neg e]
      exact h.file j g hj (nd j hd e)
  · by_cases e : j = i
    · subst e
      dsimp only
      rw [if_pos rfl, if_pos rfl]
      exact ⟨.inr (.inl rfl), fun k hk => .inr (.inr hk)⟩
    · dsimp only
      rw [if_neg e, if_neg e]
      exact ⟨.inl (f5 j hj (nd j hd e)).1, fun k hk => .inl ((f5 j hj (nd j hd e)).2 k hk)⟩
  · dsimp only at e
    by_cases ea : a = i <;> by_cases ec : c = i
    · omega
    · rw [if_pos ea, if_neg ec] at e
      exact absurd e.symm (hbn c hc (nd c dc ec))
    · rw [if_neg ea, if_pos ec] at e
      exact absurd e (hbn a ha (nd a da ea))
    · rw [if_neg ea, if_neg ec] at e
      exact h.inj a c ha hc (nd a da ea) (nd c dc ec) e
  · dsimp only at e1 e2
    by_cases ea : a = i <;> by_cases ec : c = i
    · omega
    · rw [if_pos ea] at e1
      rw [if_neg ec] at e2
      exact absurd e1 (hvn c hc (nd c dc ec) k e2)
    · rw [if_neg ea] at e1
      rw [if_pos ec] at e2
      exact absurd e2 (hvn a ha (nd a da ea) k e1)
    · rw [if_neg ea] at e1
      rw [if_neg ec] at e2
      exact h.rows a c k ha hc (nd a da ea) (nd c dc ec) e1 e2
end
/-- Which files were made: the map, behind its box. -/
structure TwAt (wr : World) (n : Nat) (L Lt : Lay) (M gm : Nat) : Prop where
  box : Blk wr M 138 #[.map (some gm)]
  pm : ∃ mk, PM wr gm mk ∧ (∀ p ∈ mk, ∃ i, i < n ∧ ¬ L.dead i ∧ ¬ Lt.dead i ∧ p.1 = L.blk i) ∧ (∀ i, i < n → ¬ L.dead i → Lt.dead i → getP (L.blk i) mk = none) ∧ (∀ i, i < n → ¬ L.dead i → ¬ Lt.dead i → getP (L.blk i) mk = some (Lt.blk i))
theorem file_info : ∃ j, Tryz.prog.info? 99 = some j ∧ j.size ≠ 0 := by
  have h : (Tryz.prog.info? 99).map (·.size) = some 2 := by kernel_rfl
  obtain ⟨j, h1, h2⟩ := Option.map_eq_some_iff.1 h
  exact ⟨j, h1, by omega⟩
theorem wpList_pm_store {P : Program} (w : World) {ops : Array Oper} {rest : List Oper} {o : Oper} {a : Act} {Q : Exit → Act → World → Prop} (hgd : o.guard = none) (mo x v : Operand) (t : TypeId) (hop : o.op = Op.mapUpdate t mo x v) (g : Nat) (m : List (Nat × Nat)) (b b2 : Nat)
    (hm : a.eval mo = .map (some g)) (hx : a.eval x = ptr b) (hv : a.eval v = ptr b2) (h : ∃ w', (Instr.mapUpdate t (.map (some g)) (ptr b) (ptr b2)).run P w = .ok () w' ∧ PM w' g m ∧ KeptBut w w' (fun k => k = g))
    (hK : ∀ w', PM w' g m → KeptBut w w' (fun k => k = g) → wpList P ops Q rest (a.put o.dst undef) w') : wpList P ops Q (o :: rest) a w := by
  refine wpList_plain hgd fun K' hK' => ?_
  obtain ⟨w', hrun, r1, r2⟩ := h
  unfold Oper.wp
  simp [execOp, hop, hm, hx, hv, hrun, Result.andThen]
  exact hK' _ _ (hK w' r1 r2)
set_option maxRecDepth 100000 in
set_option maxHeartbeats 2000000 in
theorem tw_nil {w : World} {n M gm : Nat} {L Lt : Lay} (h : TwAt w n L Lt M gm) : Calls Tryz.prog 77 #[.pointer none, .pointer (some ⟨M, 0, none⟩)] w fun e w' => e = .returned (.pointer none) ∧ w = w' := by
  have m0 := h.box.cell 0
  obtain ⟨mk, hpm, _, _, _⟩ := h.pm
  have hl := hpm.look_nil (P := Tryz.prog) Tryz.underlying138 Tryz.underlying90 (zero_file w)
  replace hpm := Lib.hid hpm
  go_enter Tryz.func77, Tryz.ntmps77
  go_wp2_with fail
  go_ret
  exact ⟨rfl, rfl⟩
/-- What the function leaves: the twin's file is there. -/
structure TwOut (w w' : World) (Fd : Nat → Prop) (d : Nat) (L : Lay) (s : Dsk) (Ft : Nat → Prop) (t : Nat) (Lt Lt' : Lay) (st : Dsk) (M gm i : Nat) : Prop where
  src : DskAt w' Fd d L s
  dst : DskAt w' (Fx Ft w w') t Lt' st
  tw : TwAt w' s.files.length L Lt' M gm
  live : ¬ Lt'.dead i
  kept : KeptBut w w' (fun k => k = gm)
  old : ∀ j, ¬ Lt.dead j → ¬ Lt'.dead j ∧ Lt'.blk j = Lt.blk j
  lay : Lt'.gN = Lt.gN ∧ Lt'.gL = Lt.gL ∧ Lt'.vC = Lt.vC
section
variable {w : World} {Fd Ft : Nat → Prop} {d t M gm i : Nat} {L Lt : Lay} {s st : Dsk} {f : Fil}
theorem TwOut.of_new (hD : DskAt w Fd d L s) (hT : DskAt w Ft t Lt st) (hfs : st.files = s.files) (hA : TwAt w s.files.length L Lt M gm) (hi : s.files[i]? = some f) (hdl : ¬ L.dead i) (hld : Lt.dead i) (hgd : ∀ k, Fd k → k ≠ gm) (hgt : ∀ k, Ft k → k ≠ gm)
    {mk : List (Nat × Nat)} (hpm : (∀ p ∈ mk, ∃ i, i < s.files.length ∧ ¬ L.dead i ∧ ¬ Lt.dead i ∧ p.1 = L.blk i) ∧ (∀ i, i < s.files.length → ¬ L.dead i → Lt.dead i → getP (L.blk i) mk = none) ∧ (∀ i, i < s.files.length → ¬ L.dead i → ¬ Lt.dead i → getP (L.blk i) mk = some (Lt.blk i)))
    {w2 w3 : World} {b : Nat} {v : Value} (hb2 : Below w.heap.size w w2) (hb : Blk w2 b 99 #[v, .int .i64 f.k]) (ho : OwnB w2 w.heap.size v f.d) (hbn : w.heap.size ≤ b) (hgm : gm < w.heap.size)
    (hp3 : PM w3 gm (mk ++ [(L.blk i, b)])) (hk3 : KeptBut w2 w3 (fun k => k = gm)) : ∃ Lt', TwOut w w3 Fd d L s Ft t Lt Lt' st M gm i ∧ Lt'.blk i = b := by
  have hil := (List.getElem?_eq_some_iff.1 hi).1
  have hD3 := (hD.below hb2).kept hk3 (fun k hk => hgd k hk)
  have hT3 := (hT.below hb2).kept hk3 (fun k hk => hgt k hk)
  have hb3 := hb.keptB hk3 (by omega)
  have hlv : ∀ k, v.ownBlock = some k → w.heap.size ≤ k := fun k hk => (own_lt ho k hk).1
  have hlv2 : ∀ k, v.ownBlock = some k → k < w3.heap.size := fun k hk => by have := (own_lt ho k hk).2; have := hk3.size; omega
  have ho3 : OwnB w3 0 v f.d := own_kept (own_base ho) hk3 (fun k hk e => by have := hlv k hk; omega)
  have old : ∀ j, j < st.files.length → ¬ Lt.dead j → Lt.blk j < w.heap.size ∧ ∀ k, (Lt.row j).ownBlock = some k → k < w.heap.size := fun j hj hd => by
    obtain ⟨a, c⟩ := hT.file j _ (List.getElem?_eq_getElem hj) hd
    exact ⟨a.lt, fun k hk => (own_lt c k hk).2⟩
  have hR := hT3.revive (i := i) (f := f) (by rw [hfs]; exact hi) hld hb3 ho3 (fun j hj hd e => by have := (old j hj hd).1; omega) (fun j hj hd k e1 e2 => by have := (old j hj hd).2 k e1; have := hlv k e2; omega)
  have hs23 := hk3.size
  have hs2 := hb2.size
  refine ⟨_, ⟨hD3, hR.more (fun k hk => ?_), ⟨(hA.box.below hb2 hA.box.lt).keptB hk3 ?_, mk ++ [(L.blk i, b)], hp3, ?_, ?_, ?_⟩, fun e => e.2 rfl, (KeptBut.of_below hb2).trans hk3 (fun _ _ e => e), ?_, rfl, rfl, rfl⟩, by dsimp only; rw [if_pos rfl]⟩
  · rcases hk with hk | hk | hk
    · exact .inl hk
    · exact .inr ⟨by omega, by have := hb3.lt; omega⟩
    · exact .inr ⟨hlv k hk, hlv2 k hk⟩
  · rintro e
    obtain ⟨mk', h1, _⟩ := hA.pm
    obtain ⟨es, c, h2, _⟩ := h1
    have h3 := hA.box
    unfold Blk at h3
    rw [e, h2] at h3
    cases h3
  · intro p hp
    rcases List.mem_append.1 hp with h1 | h1
    · obtain ⟨j, a1, a2, a3, a4⟩ := hpm.1 p h1
      exact ⟨j, a1, a2, fun e => a3 e.1, a4⟩
    · rw [List.mem_singleton.1 h1]
      exact ⟨i, hil, hdl, fun e => e.2 rfl, rfl⟩
  · intro j hj hdj hdt
    have hne : L.blk j ≠ L.blk i := fun e => hdt.2 (hD.inj j i hj hil hdj hdl e)
    have h0 := hpm.2.1 j hj hdj hdt.1
    unfold getP at h0 ⊢
    simp only [Option.map_eq_none_iff] at h0 ⊢
    rw [List.find?_append, h0]
    simp [Ne.symm hne]
  · intro j hj hdj hdt
    dsimp only at hdt ⊢
    by_cases e : j = i
    · subst e
      rw [if_pos rfl]
      have h0 := hpm.2.1 j hj hdj hld
      unfold getP at h0 ⊢
      simp only [Option.map_eq_none_iff] at h0
      rw [List.find?_append, h0]
      simp
    · rw [if_neg e]
      have h0 := hpm.2.2 j hj hdj (fun h => hdt ⟨h, e⟩)
      unfold getP at h0 ⊢
      obtain ⟨q, hq, hq2⟩ := Option.map_eq_some_iff.1 h0
      rw [List.find?_append, hq]
      simp [hq2]
  · intro j hj
    refine ⟨fun e => hj e.1, ?_⟩
    dsimp only
    rw [if_neg (fun e : j = i => hj (by rw [e]; exact hld))]
set_option maxRecDepth 100000 in
set_option maxHeartbeats 4000000 in
theorem tw_some (hD : DskAt w Fd d L s) (hT : DskAt w Ft t Lt st) (hfs : st.files = s.files) (hA : TwAt w s.files.length L Lt M gm) (hi : s.files[i]? = some f) (hfl : f.d.length ≤ 1048576) (hdl : ¬ L.dead i) (hgd : ∀ k, Fd k → k ≠ gm) (hgt : ∀ k, Ft k → k ≠ gm) :
    Calls Tryz.prog 77 #[.pointer (some ⟨L.blk i, 0, none⟩), .pointer (some ⟨M, 0, none⟩)] w fun e w' => ∃ Lt', e = .returned (.pointer (some ⟨Lt'.blk i, 0, none⟩)) ∧ TwOut w w' Fd d L s Ft t Lt Lt' st M gm i := by
  have hil := (List.getElem?_eq_some_iff.1 hi).1
  obtain ⟨jf, hj1, hj2⟩ := file_info
  obtain ⟨mk, hpm, hp1, hp2, hp3⟩ := hA.pm
  have m0 := hA.box.cell 0
  obtain ⟨bi, oi⟩ := hD.file i f hi hdl
  have hcells : ∀ W, Below w.heap.size w W → CellsAt W (L.blk i) ∧ ∀ p ∈ mk, CellsAt W p.1 := fun W hW => by
    refine ⟨⟨_, _, bi.below hW bi.lt⟩, fun p hp => ?_⟩
    obtain ⟨j, a1, a2, a3, a4⟩ := hp1 p hp
    obtain ⟨bj, _⟩ := hD.file j _ (List.getElem?_eq_getElem a1) a2
    exact ⟨_, _, a4 ▸ bj.below hW bj.lt⟩
  have hlk := hpm.look (P := Tryz.prog) Tryz.underlying138 Tryz.underlying90 hj1 hj2 (zero_file w) (hcells w (Below.refl _ _)).1 (hcells w (Below.refl _ _)).2
  unfold ptr at hlk
  have b0 := bi.cell 0
  have b1 := bi.cell 1
  have hbl := bi.lt
  have hml := hA.box.lt
  have hgl := hpm.lt
  by_cases hld : Lt.dead i
  · rw [hp2 i hil hdl hld] at hlk
    simp only [ptrV] at hlk
    have hcl := fun (W : World) (hW : Below w.heap.size w W) => cloneB_any (w := W) (own_block oi fun k hk => hW.block k (own_lt oi k hk).2) hfl
    have hst := fun (W : World) (b : Nat) (hW : Below w.heap.size w W) => (hpm.block (hW.block gm hgl)).store (P := Tryz.prog) Tryz.underlying138 Tryz.underlying90 hj1 hj2 (v := b) (hcells W hW).1 (hcells W hW).2 (hp2 i hil hdl hld)
    have hfin := fun w2 w3 b v h1 h2 h3 h4 h5 h6 => TwOut.of_new (w2 := w2) (w3 := w3) (b := b) (v := v) hD hT hfs hA hi hdl hld hgd hgt ⟨hp1, hp2, hp3⟩ h1 h2 h3 h4 hgl h5 h6
    replace hcl := Lib.hid hcl
    replace hst := Lib.hid hst
    replace hfin := Lib.hid hfin
    replace hcells := Lib.hid hcells
    replace hp1 := Lib.hid hp1
    replace hp2 := Lib.hid hp2
    replace hp3 := Lib.hid hp3
    replace hD := Lib.hid hD
    replace hT := Lib.hid hT
    replace hA := Lib.hid hA
    replace hpm := Lib.hid hpm
    replace hi := Lib.hid hi
    go_enter Tryz.func77, Tryz.ntmps77
    go_wp2_with fail
    have hxc := @Ext.cell
    have hxf := @Ext.frozen
    refine wp_hide (fun Q0 hQ0 => ?_)
    refine wp_region_line (fun w' => ∃ x : Ext _, w' = x.w) [some false, some false, some false, some false, some false, some false, none, some false, some false, some false, some false, none, none, none] 3 (by kernel_rfl) (by kernel_rfl) ⟨⟨_, (Below.refl _ _).drew⟩, rfl⟩ ?_
    simp only [earlyL, tailL]
    repeat (first | ((with_reducible refine wpMix_p ?_); go_big_quiet_step (fail); refine wpQuiet_nil ?_) | ((with_reducible refine wpMix_e ?_); go_big_quiet_step ((first | fail)); refine wpQuiet_nil ?_))
    refine wpMix_nil ?_
    clear hxc hxf
    intro wx hwx
    obtain ⟨x, hx⟩ := hwx
    have hb := x.below
    rw [← hx] at hb
    clear hx x
    have hbs := hb.size
    have hc1 := hcl.out wx hb
    replace hb := Lib.hid hb
    replace hc1 := Lib.hid hc1
    refine wpTail_step ?_
    intro Q1 hQ1
    go_wp2_with fail
    refine hc1.out.mono ?_
    rintro e w1 ⟨v1, rfl, hO, hbx⟩
    obtain ⟨Av, cv, rfl⟩ := hO.form
    have hB1 := hb.out.trans (hbx.mono hbs)
    have hO1 : OwnB w1 w.heap.size (.slice Av f.d.length cv) f.d := ⟨hO.1, by
      rcases hO.2 with h | ⟨g, cap, cur, e, h1, h2⟩
      · exact .inl h
      · exact .inr ⟨g, cap, cur, e, by omega, h2⟩⟩
    have hz1 := hB1.size
    clear hO hbx
    go_wp2_with fail
    refine hQ1 _ _ rfl (fun _ => ⟨⟨_, hB1⟩, rfl⟩) ?_
    clear hQ1 Q1
    refine wpTail_step ?_
    intro Q1 hQ1
    go_wp2_with fail
    refine hQ1 _ _ rfl (fun _ => ⟨⟨_, hB1⟩, rfl⟩) ?_
    clear hQ1 Q1
    refine wpTail_step ?_
    intro Q1 hQ1
    go_wp2_with fail
    have hB2 := hB1.alloc hz1 (.cells #[.slice Av f.d.length cv, .int .i64 f.k] 99)
    refine hQ1 _ _ rfl (fun _ => ⟨⟨_, hB2⟩, rfl⟩) ?_
    clear hQ1 Q1
    have hN : Blk (w1.alloc (.cells #[.slice Av f.d.length cv, .int .i64 f.k] 99)) w1.heap.size 99 #[.slice Av f.d.length cv, .int .i64 f.k] := Blk.new _ _ _
    have hO2 : OwnB (w1.alloc (.cells #[.slice Av f.d.length cv, .int .i64 f.k] 99)) w.heap.size (.slice Av f.d.length cv) f.d := World.ownsRow.alloc hO1 _
    have hst2 := hst.out _ w1.heap.size hB2
    replace hN := Lib.hid hN
    replace hO2 := Lib.hid hO2
    replace hB2 := Lib.hid hB2
    replace hB1 := Lib.hid hB1
    clear hO1
    refine wpTail_step ?_
    intro Q1 hQ1
    go_wp2_with (at_mapUpdate; refine wpList_pm_store _ rfl _ _ _ 138 rfl gm _ _ _ rfl rfl rfl hst2 ?_; intro w3 hp3' hk3)
    refine hQ1 _ _ rfl (fun h => absurd h (by decide)) ?_
    clear hQ1 Q1
    obtain ⟨Lt', hout, hbl'⟩ := hfin.out _ _ _ _ hB2.out hN.out hO2.out hz1 hp3' hk3
    refine wpTail_nil ?_
    refine hQ0 _ _ ?_
    clear hQ0 Q0
    have hA3 := hout.tw
    have m3 := hA3.box.cell 0
    obtain ⟨mk3, hpm3, hq1, hq2, hq3⟩ := hA3.pm
    obtain ⟨bi3, _⟩ := hout.src.file i f hi.out hdl
    have hlk3 := hpm3.look (P := Tryz.prog) Tryz.underlying138 Tryz.underlying90 hj1 hj2 (zero_file w3) ⟨_, _, bi3⟩ (fun p hp => by
      obtain ⟨j, a1, a2, a3, a4⟩ := hq1 p hp
      obtain ⟨bj, _⟩ := hout.src.file j _ (List.getElem?_eq_getElem a1) a2
      exact ⟨_, _, a4 ▸ bj⟩)
    unfold ptr at hlk3
    rw [hq3 i hil hdl hout.live] at hlk3
    simp only [ptrV] at hlk3
    replace hout := Lib.hid hout
    replace hpm3 := Lib.hid hpm3
    replace hq1 := Lib.hid hq1
    replace hq2 := Lib.hid hq2
    replace hq3 := Lib.hid hq3
    replace hA3 := Lib.hid hA3
    replace hbl' := Lib.hid hbl'
    clear hst2 hp3' hk3 b0 b1 m0 hlk
    go_wp2_with fail
    go_ret
    exact ⟨Lt', rfl, hout.out⟩
  · rw [hp3 i hil hdl hld] at hlk
    simp only [ptrV] at hlk
    have hout : TwOut w w Fd d L s Ft t Lt Lt st M gm i := ⟨hD, hT.more (fun _ => .inl), hA, hld, KeptBut.refl _ _, fun j hj => ⟨hj, rfl⟩, rfl, rfl, rfl⟩
    replace hout := Lib.hid hout
    replace hD := Lib.hid hD
    replace hT := Lib.hid hT
    replace hA := Lib.hid hA
    replace hpm := Lib.hid hpm
    replace hi := Lib.hid hi
    replace hp1 := Lib.hid hp1
    replace hp2 := Lib.hid hp2
    replace hp3 := Lib.hid hp3
    go_enter Tryz.func77, Tryz.ntmps77
    go_wp2_with fail
    go_ret
    exact ⟨Lt, rfl, hout.out⟩
end
structure ExtK (w0 : World) (g : Nat) where
  w : World
  kept : KeptBut w0 w (fun k => k = g)
instance (w : World) (g : Nat) : Nonempty (ExtK w g) := ⟨⟨w, KeptBut.refl _ _⟩⟩
theorem ExtK.cell {w : World} {g : Nat} (x : ExtK w g) (b o : Nat) (h : b < w.heap.size) (hg : ¬ b = g) : x.w.cell? ⟨b, o, none⟩ = w.cell? ⟨b, o, none⟩ := x.kept.cell ⟨b, o, none⟩ h hg
theorem ExtK.frozen {w : World} {g : Nat} (x : ExtK w g) (b o : Nat) (h : b < w.heap.size) (hg : ¬ b = g) : x.w.frozen? ⟨b, o, none⟩ = w.frozen? ⟨b, o, none⟩ := by
  have hb := x.kept.block b h hg
  unfold World.frozen?
  simp only [hb]
structure ExtP (I : World → Prop) where
  w : World
  inv : I w
theorem before_asymm {a b : List UInt8} (h : bytesBefore a b = true) : bytesBefore b a = false := by
  rcases Bool.eq_false_or_eq_true (bytesBefore b a) with h2 | h2
  · exact absurd (List.lt_trans (before_lt _ _ h) (before_lt _ _ h2)) (List.lt_irrefl _)
  · exact h2
theorem before_ne {a b : List UInt8} (h : bytesBefore a b = true) : a ≠ b := by
  rintro rfl
  have := before_asymm h
  rw [h] at this
  cases this
theorem put_filter {k : List UInt8} {v : Nat} {done : List UInt8 → Bool} (hk : done k = false) : ∀ m : NM, m.Pairwise (fun p q => bytesBefore p.1 q.1 = true) → (k, v) ∈ m → putM k v (m.filter fun q => done q.1) = m.filter fun q => done q.1 || q.1 == k
  | [], _, h => by cases h
  | q :: r, hp, h => by
    obtain ⟨h1, h2⟩ := List.pairwise_cons.1 hp
    by_cases e : q.1 = k
    · have hq : q = (k, v) := by
        rcases List.mem_cons.1 h with h3 | h3
        · exact h3.symm
        · exact absurd e (before_ne (h1 _ h3))
      subst hq
      rw [List.filter_cons, List.filter_cons]
      simp only [hk, Bool.false_eq_true, if_false, Bool.false_or, beq_self_eq_true, if_true]
      have hno : ∀ x ∈ r, x.1 ≠ k := fun x hx => (before_ne (h1 x hx)).symm
      have e1 : (r.filter fun q => done q.1 || q.1 == k) = r.filter fun q => done q.1 := List.filter_congr fun x hx => by simp [hno x hx]
      have e2 : delM k (r.filter fun q => done q.1) = r.filter fun q => done q.1 := by
        unfold delM
        rw [List.filter_eq_self]
        intro x hx
        simpa using hno x (List.mem_filter.1 hx).1
      unfold putM
      rw [e1, e2]
      cases hr : r.filter fun q => done q.1 with
      | nil => rfl
      | cons y ys =>
        have hy : y ∈ r := (List.mem_filter.1 (hr ▸ List.mem_cons_self : y ∈ r.filter fun q => done q.1)).1
        unfold insM
        rw [if_pos (h1 y hy)]
    · have h3 : (k, v) ∈ r := by
        rcases List.mem_cons.1 h with h3 | h3
        · exact absurd (by rw [← h3]) e
        · exact h3
      have ih := put_filter hk r h2 h3
      rw [List.filter_cons, List.filter_cons]
      have hqk : (q.1 == k) = false := by simpa using e
      cases hd : done q.1
      · simp only [hqk, Bool.false_or, Bool.false_eq_true, if_false]
        exact ih
      · simp only [Bool.true_or, if_true]
        rw [← ih]
        unfold putM delM
        rw [List.filter_cons]
        simp only [hqk, Bool.not_false, if_true]
        rw [show insM (k, v) (q :: List.filter (fun p => !p.1 == k) (List.filter (fun q => done q.1) r)) = q :: insM (k, v) (List.filter (fun p => !p.1 == k) (List.filter (fun q => done q.1) r)) from by
          conv => lhs; unfold insM
          rw [if_neg (by rw [before_asymm (h1 _ h3)]; decide)]]
theorem ranges_block {P : Program} {k : TypeId} {w w' : World} {b r n cnt : Nat} {D : DataW Unit} {left : Lit → Bool} (h : w.ranges P k ptrR b r n D left cnt) (hb : w'.heap[b]? = w.heap[b]?) (hr : w'.heap[r]? = w.heap[r]?) : w'.ranges P k ptrR b r n D left cnt := by
  obtain ⟨es, clock, since, seen, c0, h1, h2, h3, h4, h5, h6⟩ := h
  exact ⟨es, clock, since, seen, c0, hb.trans h1, h2, h3, h4, hr.trans h5, h6⟩
theorem ranges_lt {P : Program} {k : TypeId} {w : World} {b r n cnt : Nat} {D : DataW Unit} {left : Lit → Bool} (h : w.ranges P k ptrR b r n D left cnt) : r < w.heap.size := by
  obtain ⟨es, clock, since, seen, c0, h1, h2, h3, h4, h5, h6⟩ := h
  exact (Array.getElem?_eq_some_iff.1 h5).1
section
variable {w w' : World} {F : Nat → Prop} {d : Nat} {L : Lay} {s : Dsk}
theorem TwAt.kept {S : Nat → Prop} {n M gm : Nat} {Lt : Lay} (h : TwAt w n L Lt M gm) (hk : KeptBut w w' S) (hM : ¬ S M) (hg : ¬ S gm) : TwAt w' n L Lt M gm := by
  obtain ⟨mk, h1, h2⟩ := h.pm
  exact ⟨h.box.keptB hk hM, mk, h1.block (hk.block gm h1.lt hg), h2⟩
theorem TwAt.glt {n M gm : Nat} {Lt : Lay} (h : TwAt w n L Lt M gm) : gm < w.heap.size := by
  obtain ⟨mk, h1, h2⟩ := h.pm
  exact h1.lt
/-- A new disk, with the files that are not there yet. -/
theorem DskAt.ghost {r : Int} (h : DskAt w F d L (Dsk.new r)) (fs : List Fil) : DskAt w F d { L with dead := fun i => i < fs.length } { Dsk.new r with files := fs } := by
  obtain ⟨f1, f2, f3, f4, f5⟩ := h.inF
  exact ⟨h.box, h.names, h.last, h.chg, fun i f hi hd => absurd (List.getElem?_eq_some_iff.1 hi).1 hd, ⟨f1, f2, f3, f4, fun i hi hd => absurd hi hd⟩, h.ne, fun i j hi hj di => absurd hi di,
    ⟨fun p hp => by simp [Dsk.new] at hp, fun p hp => by simp [Dsk.new] at hp, fun p hp => by simp [Dsk.new] at hp, fun i hi => hi⟩, fun i j k hi hj di => absurd hi di⟩
/-- The names are a copy of what lasts. -/
theorem DskAt.reclone (h : DskAt w F d L s) {w3 w4 : World} (hm : MapAt Tryz.prog 9 w3 w.heap.size (mvM L.blk s.last)) (hb : Below w.heap.size w w3) (hlt : w.heap.size < w3.heap.size)
    (hk : KeptBut w3 w4 (fun k => k = d)) (hbox : Blk w4 d 89 #[.int .i64 s.room, .map (some w.heap.size), .map (some L.gL), L.vC, .bool s.off, .int .i64 s.fuse]) :
    DskAt w4 (Fx F w w4) d { L with gN := w.heap.size } { s with names := s.last } := by
  obtain ⟨f1, f2, f3, f4, f5⟩ := h.inF
  have h3 := h.below hb
  have hs4 := hk.size
  refine ⟨hbox, ?_, ?_, own_kept h3.chg hk (own_ne_blk h3.chg h3.box (by decide)), fun i f hi hd => ?_, ⟨.inl f1, (.inr ⟨Nat.le_refl _, (by show w.heap.size < w4.heap.size; omega)⟩), .inl f3, (fun k e => .inl (f4 k e)), fun i hi hd => ⟨.inl (f5 i hi hd).1, fun k e => .inl ((f5 i hi hd).2 k e)⟩⟩, fun e => ?_, h.inj, ⟨h.live.2.1, h.live.2⟩, h.rows⟩
  · exact hm.block (hk.block _ hlt (map_ne_blk hm h3.box))
  · exact h3.last.block (hk.block _ h3.last.lt (map_ne_blk h3.last h3.box))
  · obtain ⟨a, b⟩ := h3.file i f hi hd
    exact ⟨a.keptB hk (blk_ne_blk a h3.box (by decide)), own_kept b hk (own_ne_blk b h3.box (by decide))⟩
  · have := h.last.lt
    have e' : w.heap.size = L.gL := e
    omega
end
/-- A twin under way: what is of it, in memory that is its own. -/
structure Way (w wr : World) (Fd : Nat → Prop) (d : Nat) (L : Lay) (s : Dsk) (t M gm : Nat) (X : Nat → Prop) (st : Dsk) : Prop where
  src : DskAt wr Fd d L s
  ex : ∃ Ft Lt, DskAt wr Ft t Lt st ∧ TwAt wr s.files.length L Lt M gm ∧ ∀ k, Ft k → w.heap.size ≤ k ∧ k < wr.heap.size ∧ k ≠ gm ∧ k ≠ M ∧ ¬ X k
  below : Below w.heap.size w wr
section
variable {w wr : World} {Fd : Nat → Prop} {d t M gm : Nat} {L : Lay} {s st : Dsk} {X : Nat → Prop}
theorem Way.kept (h : Way w wr Fd d L s t M gm X st) {wx : World} {S : Nat → Prop} (hk : KeptBut wr wx S) (hS : ∀ k, k < wr.heap.size → S k → X k ∧ w.heap.size ≤ k ∧ k ≠ gm ∧ k ≠ M) (hF : ∀ k, Fd k → k < w.heap.size) : Way w wx Fd d L s t M gm X st := by
  obtain ⟨Ft, Lt, hT, hA, hs⟩ := h.ex
  have hz := hk.size
  have hz0 := h.below.size
  have hmn := hk.mono hS
  refine ⟨h.src.kept hmn (fun k hk e => by have := hF k hk; omega), ⟨Ft, Lt, hT.kept hmn (fun k hk e => (hs k hk).2.2.2.2 e.1), hA.kept hmn (fun e => e.2.2.2 rfl) (fun e => e.2.2.1 rfl), fun k hk => by obtain ⟨a, b, c⟩ := hs k hk; exact ⟨a, by omega, c⟩⟩, h.below.trans (hmn.below (fun k e => e.2.1) hz0)⟩
theorem Way.more {X' : Nat → Prop} (h : Way w wr Fd d L s t M gm X st) (hX : ∀ k, k < wr.heap.size → X' k → X k) : Way w wr Fd d L s t M gm X' st := by
  obtain ⟨Ft, Lt, hT, hA, hs⟩ := h.ex
  exact ⟨h.src, ⟨Ft, Lt, hT, hA, fun k hk => by obtain ⟨a, b, c, e, f⟩ := hs k hk; exact ⟨a, b, c, e, fun x => f (hX k b x)⟩⟩, h.below⟩
end
section
variable {w : World} {Fd Ft : Nat → Prop} {d t M gm : Nat} {L Lt : Lay} {s st : Dsk}
theorem twc_any (hD : DskAt w Fd d L s) (hT : DskAt w Ft t Lt st) (hfs : st.files = s.files) (hA : TwAt w s.files.length L Lt M gm) (o : Option Nat) (ho : ∀ i, o = some i → i < s.files.length ∧ ¬ L.dead i) (hfl : ∀ f ∈ s.files, f.d.length ≤ 1048576) (hgd : ∀ k, Fd k → k ≠ gm) (hgt : ∀ k, Ft k → k ≠ gm) :
    Calls Tryz.prog 77 #[ptrV (o.map L.blk), .pointer (some ⟨M, 0, none⟩)] w fun e w' => ∃ Lt', e = .returned (ptrV (o.map Lt'.blk)) ∧ DskAt w' Fd d L s ∧ DskAt w' (Fx Ft w w') t Lt' st ∧ TwAt w' s.files.length L Lt' M gm ∧ KeptBut w w' (fun k => k = gm) ∧ ∀ i, o = some i → ¬ Lt'.dead i := by
  cases o with
  | none =>
    refine (tw_nil hA).mono ?_
    rintro e w' ⟨rfl, rfl⟩
    exact ⟨Lt, rfl, hD, hT.more (fun k hk => .inl hk), hA, KeptBut.refl _ _, fun i h => by cases h⟩
  | some i =>
    obtain ⟨h1, h2⟩ := ho i rfl
    refine (tw_some hD hT hfs hA (List.getElem?_eq_getElem h1) (hfl _ (List.getElem_mem h1)) h2 hgd hgt).mono ?_
    rintro e w' ⟨Lt', rfl, hO⟩
    exact ⟨Lt', rfl, hO.src, hO.dst, hO.tw, hO.kept, fun j h => by injection h with h; subst h; exact hO.live⟩
end
/-- The twin behind its first i changes. -/
def twS (s : Dsk) (i : Nat) : Dsk := { room := s.room, fuse := s.fuse, off := s.off, files := s.files, names := (s.chg.take i).foldl doesC s.last, last := s.last, chg := s.chg.take i }
theorem twS_all {s : Dsk} (h : s.names = s.chg.foldl doesC s.last) : twS s s.chg.length = s := by
  unfold twS
  rw [List.take_length, ← h]
end Go.Proofs.YtdbpfemkjfogoaaGreatDoor
