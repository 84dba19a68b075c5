/- The law's awake, plain. Contracts of the law: small, awake. The law WalLasts: what is kept along its rounds. The law WalLasts. A law's row, whatever its parameters: what a walk that leaves old memory as it was gives, and how the row closes. A row of acts, and a crash's choices, that came in, opened: their cells, as lists. What is laid of the library's variables, for the walks. A change's row whose call may read package variables: what the world is shaped like, too. Chapter 7's rows: what the program's variables hold; rounds that came in, opened. -/
import Derived.Test.YtdbpfemkjfogoaaGreatDoorW14J
import Derived.Test.YtdbpfemkjfogoaaGreatDoorRows
import Derived.WalkKit
import Derived.ProofKit
import Derived.OpenShut
import Derived.JoinedCond
import Derived.Carry
import Derived.Lib.SmallJoins
import Derived.Deep.Slices
import Derived.Deep.Fields
import Derived.ChangeSame
import Derived.Test.YtdbpfemkjfogoaaGreatDoorM15
import Derived.LaidMore
import Derived.Lay
import Derived.Stop.Joined
import Derived.Test.YtdbpfemkjfogoaaGreatDoorM07
import Derived.Lib.LaidTab
import Derived.Stop.LaidErr
import Derived.Handed
import Derived.HandedShaped
namespace Go.Proofs.YtdbpfemkjfogoaaGreatDoor
set_option linter.unusedVariables false
def wOp : OpE := ⟨[97], [120], false⟩
def wB0 : Dsk := Dsk.new 1048576
def wB1 : Dsk := (wB0.beginW 3).1
def wB2 : Dsk := (wB1.addW 3 ⟨1, [wOp]⟩).1
def wB3 : Dsk := wB2.setFuse 2
def wB4 : Dsk := (wB3.addW 3 ⟨2, [wOp]⟩).1
def wC : Cra := ⟨0, [31], []⟩
def wB5 : Dsk := wB4.crash wC
def wB6 : Dsk := wB5.start
theorem wa1 : (wB0.beginW 3).2 = 0 := by decide +kernel
theorem wa2 : (wB1.addW 3 ⟨1, [wOp]⟩).2 = 0 := by decide +kernel
theorem wa3 : (wB3.addW 3 ⟨2, [wOp]⟩).2 = 7 := by decide +kernel
theorem wa4 : wB6.logsW = [3] := by decide +kernel
theorem wa5 : wB6.off = false := by decide +kernel
theorem wa6 : wB6.names.map (·.1) = [nameW 3] := by decide +kernel
theorem wa7 : wB6.rawW = [3] := by decide +kernel
theorem wa8 : (wB6.replayW 0).1 = [⟨1, [wOp]⟩] := by kernel_rfl
theorem wa9 : (nameW 3 == []) = false := by decide +kernel
end Go.Proofs.YtdbpfemkjfogoaaGreatDoor
namespace Go.Proofs.YtdbpfemkjfogoaaGreatDoor
open Go.RowKit
set_option linter.unusedVariables false
set_option linter.unusedSimpArgs false
theorem wOp_at (w : World) : OpsR (w.alloc (.cells #[.string ⟨#[97]⟩, .string ⟨#[120]⟩, .bool false] 60)) (w.heap.size + 1) (some ⟨w.heap.size, 0, none⟩) [wOp] :=
  ⟨rfl, fun _ => ⟨_, rfl, by simp, fun j u hu => by
    rcases j with _ | _ | _ | j
    · simp [opsV, opL, wOp] at hu; subst hu; simp [go_sem, Addr.add]; rfl
    · simp [opsV, opL, wOp] at hu; subst hu; simp [go_sem, Addr.add]; rfl
    · simp [opsV, opL, wOp] at hu; subst hu; simp [go_sem, Addr.add]
    · simp [opsV, opL, wOp] at hu⟩⟩
set_option maxRecDepth 100000 in
set_option maxHeartbeats 1000000 in
theorem small_any (n : Nat) (w : World) : Calls Tryz.prog 20 #[.int .u64 (n : Nat)] w fun e w' => ∃ A, e = .returned (.agg #[.int .u64 (n : Nat), .slice A 1 1]) ∧ OpsR w' w'.heap.size A [wOp] ∧ Below w.heap.size w w' := by
  have g1 := Lib.hid ((Blk.new w 53 #[.int .u64 (n : Nat), .slice (some ⟨w.heap.size + 1, 0, none⟩) 1 1]).alloc (.cells #[.string ⟨#[97]⟩, .string ⟨#[120]⟩, .bool false] 60))
  have ho := wOp_at (w.alloc (.cells #[.int .u64 (n : Nat), .slice (some ⟨w.heap.size + 1, 0, none⟩) 1 1] 53))
  have hb : Below w.heap.size w ((w.alloc (.cells #[.int .u64 (n : Nat), .slice (some ⟨w.heap.size + 1, 0, none⟩) 1 1] 53)).alloc (.cells #[.string ⟨#[97]⟩, .string ⟨#[120]⟩, .bool false] 60)) := ((Below.refl _ _).alloc (Nat.le_refl _) _).alloc (by simp) _
  rw [World.size_alloc] at ho
  replace ho := Lib.hid ho
  replace hb := Lib.hid hb
  go_enter Tryz.func20, Tryz.ntmps20
  go_wp2_with fail
  refine bodyPost_ret (v := .agg #[.int .u64 (n : Nat), .slice (some ⟨w.heap.size + 1, 0, none⟩) 1 1]) (results_cell_row rfl _ _ w.heap.size 53 #[.int .u64 (n : Nat), .slice (some ⟨w.heap.size + 1, 0, none⟩) 1 1] (0, 0) _ rfl g1.out Tryz.underlying53 rfl (by kernel_rfl)) rfl ⟨_, rfl, Reads.more ho.out (by simp), hb.out⟩
theorem wC_at (w : World) (t : TypeId) : CraAt (w.alloc (.cells #[.int .i64 31] t)) wC (some ⟨w.heap.size, 0, none⟩) none :=
  ⟨⟨rfl, fun _ => ⟨_, rfl, by simp, fun j u hu => by
    have hj : j < 1 := (List.getElem?_eq_some_iff.1 hu).1
    match j, hj with
    | 0, _ => simp [keepV, wC] at hu; subst hu; simp [Addr.add]⟩⟩, Reads.none_, by decide, by decide, (fun x hx => by simp [wC] at hx; subst hx; omega), (fun x hx => by simp [wC] at hx)⟩
set_option maxRecDepth 100000 in
set_option maxHeartbeats 4000000 in
theorem wawake_any {w : World} (hG : Glo w) :
    Calls Tryz.prog 9 #[] w fun e w' => e = .returned (.bool true) ∧ Below w.heap.size w w' := by
  have hw7 := hG.size
  go_enter Tryz.func9, Tryz.ntmps9
  go_wp2_with fail
  refine (New_dx (X := fun k => k < w.heap.size) 1048576 w (fun k q => q)).mono ?_
  rintro e w1 ⟨d, rfl, h1, b1, hd1⟩
  have z1 := b1.size
  have G1 := hG.below b1 hw7
  have g0 : (Dsk.new 1048576).Good 0 := .new _
  have c2 := Begin_any h1 (fun k q => by omega) (fun k q => by omega) G1 g0 (by omega) 3 (by omega)
  replace c2 := Lib.hid c2
  go_wp2_with fail
  refine c2.out.mono ?_
  rintro e w2 ⟨hB, k2⟩
  have z2 := k2.size
  rcases hB with ⟨_, lg, rfl, hl2, hlg, h2⟩ | ⟨q, _, _⟩
  rotate_left
  · exact absurd wa1 q
  have G2 := G1.keeps k2 (fun k q => by omega)
  have b2 : Below w.heap.size w w2 := b1.trans (k2.below (fun k q => q))
  have g1 : wB1.Good 2 := g0.beginW 3
  have hlt2 := Blk.lt hl2
  change Dx _ w2 d wB1 at h2
  have cN := Lib.hid (LN_any hl2)
  have cs := Lib.hid (small_any 1 w2)
  replace hl2 := Lib.hid hl2
  go_wp2_with fail
  refine cN.out.mono ?_
  rintro e w2' ⟨rfl, rfl⟩
  go_wp2_with fail
  refine cs.out.mono ?_
  rintro e w3 ⟨A1, rfl, ho3, b3⟩
  have z3 := b3.size
  have h3 := h2.grow b3 (fun k => .inl)
  have k3 : Keeps (fun k => k < w.heap.size ∨ k = lg) w2 w3 := Keeps.of_below b3 (fun k q => by omega)
  have G3 := G2.keeps k3 (fun k q => by omega)
  have l3 := k3.blk hl2.out (.inr rfl)
  have c4 := Add_any h3 (fun k q => by omega) (fun k q => by omega) G3 g1 (by omega) (by omega) l3 (.inr rfl) 1 A1 1 w3.heap.size [wOp] (by omega) ho3 (Nat.le_refl _) (by decide)
  rw [wa2] at c4
  have b3' : Below w.heap.size w w3 := b2.trans (k3.below (fun k q => .inl q))
  replace c4 := Lib.hid c4
  replace l3 := Lib.hid l3
  clear hl2 b1 b2 b3 k2 h1 h2 cN cs c2 G1 G2 k3 ho3 h3
  go_wp2_with fail
  refine c4.out.mono ?_
  rintro e w4 ⟨rfl, h4, k4⟩
  have z4 := k4.size
  change Dx _ w4 d wB2 at h4
  have G4 := G3.keeps k4 (fun k q => by omega)
  have l4 := k4.blk l3.out (.inr rfl)
  have b4 : Below w.heap.size w w4 := b3'.trans (k4.below (fun k q => .inl q))
  have g2 : wB2.Good _ := g1.addW 3 ⟨1, [wOp]⟩
  have c5 := Lib.hid (Fuse_dx h4 (fun k q => by omega) 2)
  replace l4 := Lib.hid l4
  clear l3 c4 G3 k4 h4 b3'
  go_wp2_with fail
  refine c5.out.mono ?_
  rintro e w5 ⟨rfl, h5, k5⟩
  have z5 := k5.size
  change Dx _ w5 d wB3 at h5
  have G5 := G4.keeps k5 (fun k q => by omega)
  have l5 := k5.blk l4.out (.inr rfl)
  have b5 : Below w.heap.size w w5 := b4.trans (k5.below (fun k q => .inl q))
  have g3 : wB3.Good _ := g2.setFuse (n := 2) (by omega)
  have cs := Lib.hid (small_any 2 w5)
  replace l5 := Lib.hid l5
  clear l4 c5 G4 k5 b4
  go_wp2_with fail
  refine cs.out.mono ?_
  rintro e w6 ⟨A2, rfl, ho6, b6⟩
  have z6 := b6.size
  have h6 := h5.grow b6 (fun k => .inl)
  have k6 : Keeps (fun k => k < w.heap.size ∨ k = lg) w5 w6 := Keeps.of_below b6 (fun k q => by omega)
  have G6 := G5.keeps k6 (fun k q => by omega)
  have l6 := k6.blk l5.out (.inr rfl)
  have b6' : Below w.heap.size w w6 := b5.trans (k6.below (fun k q => .inl q))
  have c7 := Add_any h6 (fun k q => by omega) (fun k q => by omega) G6 g3 (by omega) (by omega) l6 (.inr rfl) 2 A2 1 w6.heap.size [wOp] (by omega) ho6 (Nat.le_refl _) (by decide)
  rw [wa3] at c7
  replace c7 := Lib.hid c7
  clear h5 G5 l5 b5 cs b6 h6 k6 l6 ho6
  go_wp2_with fail
  refine c7.out.mono ?_
  rintro e w7 ⟨rfl, h7, k7⟩
  have z7 := k7.size
  change Dx _ w7 d wB4 at h7
  have G7 := G6.keeps k7 (fun k q => by omega)
  have b7 : Below w.heap.size w w7 := b6'.trans (k7.below (fun k q => .inl q))
  have g4 : wB4.Good _ := g3.addW 3 ⟨2, [wOp]⟩
  clear c7 G6 k7 b6'
  go_wp2_with fail
  have hal : Below w7.heap.size w7 (w7.alloc (.cells #[.int .i64 31] 3)) := (Below.refl _ _).alloc (Nat.le_refl _) _
  have h7b : Dx (fun k => (k < w.heap.size ∨ k = lg) ∨ k = w7.heap.size) (w7.alloc (.cells #[.int .i64 31] 3)) d wB4 := h7.grow hal (fun k q => q.imp id (fun e => by omega))
  have G7b := G7.below hal (by omega)
  have c8 := Crash_dx h7b (fun k q => by rw [World.size_alloc]; omega) g4 (by omega) wC (some ⟨w7.heap.size, 0, none⟩) none 1 0 (wC_at w7 3) (fun ad e => by
    rcases e with ⟨_, e⟩ | ⟨_, e⟩
    · injection e with e
      subst e
      exact .inr rfl
    · cases e)
  unfold craV at c8
  simp only [wC, List.length_singleton, List.length_nil] at c8
  have b7b : Below w.heap.size w (w7.alloc (.cells #[.int .i64 31] 3)) := b7.trans (hal.mono (by omega))
  have z7b : (w7.alloc (.cells #[.int .i64 31] 3)).heap.size = w7.heap.size + 1 := by simp
  generalize w7.alloc (.cells #[.int .i64 31] 3) = w7b at *
  replace c8 := Lib.hid c8
  clear h7 hal h7b G7 b7
  refine c8.out.mono ?_
  rintro e w8 ⟨rfl, h8, k8⟩
  have z8 := k8.size
  change Dx _ w8 d wB5 at h8
  have G8 := G7b.keeps k8 (fun k q => by omega)
  have b8 : Below w.heap.size w w8 := b7b.trans (k8.below (fun k q => .inl (.inl q)))
  have g5 : wB5.Good _ := g4.crash wC
  have c9 := Lib.hid (Start_dx h8 (fun k q => by omega))
  clear c8 G7b k8 b7b
  go_wp2_with fail
  refine c9.out.mono ?_
  rintro e w9 ⟨rfl, h9, k9⟩
  have z9 := k9.size
  change Dx _ w9 d wB6 at h9
  have G9 := G8.keeps k9 (fun k q => by omega)
  have b9 : Below w.heap.size w w9 := b8.trans (k9.below (fun k q => .inl (.inl q)))
  have g6 : wB6.Good _ := g5.start
  have hnm : ∀ p ∈ wB6.names, p.1 ≠ [] := fun p hp e => by
    have : p.1 ∈ wB6.names.map (·.1) := List.mem_map_of_mem hp
    rw [wa6, List.mem_singleton] at this
    have h9 := wa9
    rw [← this, e] at h9
    cases h9
  have hnl : wB6.names.length ≤ 20000 := by
    have := congrArg List.length wa6
    rw [List.length_map] at this
    rw [this]
    decide
  have hps : wB6.rawW.Pairwise (· ≤ ·) := by rw [wa7]; exact List.pairwise_singleton _ _
  have c10 := Lib.hid (Replay_any h9 G9 g6 (by omega) hnl hnm hps wa5 0)
  clear c9 G8 h8 k9 b8
  go_wp2_with fail
  refine c10.out.mono ?_
  rintro e w10 ⟨v, l, rfl, hm, hl, b10⟩
  rw [wa8] at hl
  obtain ⟨x, rfl⟩ : ∃ x, l = [x] := by
    have := congrArg List.length hl
    rw [List.length_map] at this
    exact List.length_eq_one_iff.1 this
  have hxb : x.b = ⟨1, [wOp]⟩ := by
    rw [List.map_singleton] at hl
    injection hl
  have z10 := b10.size
  have h10 := h9.grow b10 (fun k => .inl)
  have G10 := G9.below b10 (by omega)
  have b10' : Below w.heap.size w w10 := b9.trans (b10.mono (by omega))
  have c11 := Logs_any h10 G10 g6 (by omega) hps
  rw [wa4] at c11
  obtain ⟨A, c, rfl⟩ := hm.form
  obtain ⟨bb, oo, hAe, hbb, hcell⟩ := row_at (k := 0) (x := x) mbC_len (by decide) (Reads.of_own hm.row) rfl
  have q0 : w10.cell? ⟨bb, oo + 0 * 2, none⟩ = some (.int .u64 (x.b.seq : Nat)) := hcell 0 _ rfl
  have q1 : w10.cell? ⟨bb, oo + 0 * 2 + 1, none⟩ = some x.v := hcell 1 _ rfl
  have hop := hm.ops x (List.mem_singleton_self x)
  obtain ⟨A3, c3, hv⟩ := hop.form
  rw [hv] at hop q1
  obtain ⟨_, hor⟩ := hop.opsR
  rw [hxb] at q0 q1 hor
  obtain ⟨ba, pa, hae, hba, a0, a1, a2⟩ := OpsR.at_ (k := 0) (o := wOp) hor rfl
  rw [hAe]
  rw [hae] at q1
  rw [Nat.zero_mul, Nat.add_zero] at q0 q1 a1
  replace c11 := Lib.hid c11
  replace hm := Lib.hid hm
  replace hop := Lib.hid hop
  replace hor := Lib.hid hor
  replace hAe := Lib.hid hAe
  replace hae := Lib.hid hae
  replace hxb := Lib.hid hxb
  replace hl := Lib.hid hl
  replace hv := Lib.hid hv
  clear hcell c10 h9 G9 b9 b10 a0 a2
  go_wp2_with fail
  refine c11.out.mono ?_
  rintro e w11 ⟨v2, rfl, hu, b11⟩
  have z11 := b11.size
  have r0 : w11.cell? ⟨bb, oo, none⟩ = some (.int .u64 1) := (b11.cell (p := ⟨bb, oo, none⟩) hbb).trans q0
  have r1 : w11.cell? ⟨bb, oo + 1, none⟩ = some (.slice (some ⟨ba, pa, none⟩) 1 c3) := (b11.cell (p := ⟨bb, oo + 1, none⟩) hbb).trans q1
  have r2 : w11.cell? ⟨ba, pa + 1, none⟩ = some (.string ⟨#[120]⟩) := (b11.cell (p := ⟨ba, pa + 1, none⟩) hba).trans a1
  obtain ⟨A4, c4, rfl⟩ : ∃ A c, v2 = .slice A 1 c := by
    rcases hu.2 with ⟨_, e⟩ | ⟨g, cap, cur, e, _⟩
    · cases e
    · exact ⟨_, cap, e⟩
  obtain ⟨b4, o4, hA4, hb4, hc4⟩ := row_at (k := 0) (x := 3) (l := [3]) (f := fun n : Nat => [Value.int .u64 (n : Nat)]) (m := 1) (fun _ => rfl) (by decide) (show Reads w11 w11.heap.size 1 A4 1 ([3].flatMap fun n : Nat => [Value.int .u64 (n : Nat)]) from Reads.of_own hu) rfl
  have r3 : w11.cell? ⟨b4, o4 + 0 * 1, none⟩ = some (.int .u64 3) := hc4 0 _ rfl
  rw [Nat.zero_mul, Nat.add_zero] at r3
  rw [hA4]
  have hfin : Below w.heap.size w w11 := b10'.trans (b11.mono (by omega))
  have hl1 : bb < w11.heap.size := by omega
  have hl2 : ba < w11.heap.size := by omega
  replace hfin := Lib.hid hfin
  replace hA4 := Lib.hid hA4
  replace hu := Lib.hid hu
  clear hc4 q0 q1 a1 b11 b10' G10 h10 c11
  go_wp2_with fail
  go_ret
  exact ⟨rfl, hfin.out⟩
theorem goW_len : ∀ (r : List (BatE × Bool)) (s : Dsk) (n : Nat), (goW r s n).2.1.length ≤ r.length
  | [], s, n => Nat.le_refl 0
  | (b, w) :: r, s, n => by
    unfold goW
    simp only
    generalize (if w = true then s.nextW else (s, 0)) = x
    generalize (if w = true then nextN s.logsW else n) = n1
    by_cases h1 : x.2 = 7
    · rw [if_pos h1]; exact Nat.zero_le _
    · rw [if_neg h1]
      by_cases h2 : (x.1.addW n1 b).2 = 7
      · rw [if_pos h2]; exact Nat.zero_le _
      · rw [if_neg h2]
        have := goW_len r (x.1.addW n1 b).1 n1
        simp only [List.length_cons]
        split
        · simp only [List.length_cons]; omega
        · omega
theorem goesW_len (s : Dsk) (f : Int) (r : List (BatE × Bool)) : (goesW s f r).2.1.length ≤ r.length := by
  unfold goesW
  split
  · exact Nat.zero_le _
  · exact goW_len _ _ _
theorem mb_form {w : World} {B : Nat} {v : Value} {l : List MB} (h : w.ownsRow B 53 2 v l.length (mbV l)) : ∃ A cap, v = .slice A l.length cap := by
  rcases h.2 with ⟨rfl, e⟩ | ⟨g, cap, cur, rfl, _⟩
  · exact ⟨none, 0, by rw [e]⟩
  · exact ⟨_, cap, rfl⟩
/-- Behind the append of some batches to those that are held to be there. -/
theorem have_arm {X : Nat → Prop} {W w6 : World} {d N : Nat} {s : Dsk} {hv v2 : Value} {H T H1 : List MB} (hH1 : H1 = H ++ T) (hD : Dx X W d s) (hX : ∀ k, X k → k < W.heap.size) (hN : ∀ k, k < N → X k) (hNW : N ≤ W.heap.size)
    (hh : W.ownsRow N 53 2 hv H.length (mbV H)) (hin : ∀ k, hv.ownBlock = some k → X k)
    (ho6 : w6.ownsRow N 53 2 v2 (H.length + T.length) (mbV H ++ mbV T)) (hg6 : W.grownBy w6 hv.ownBlock) (hat : v2.ownBlock = hv.ownBlock ∨ v2.ownBlock = some W.heap.size) :
    ∃ A2 c2, v2 = .slice A2 H1.length c2 ∧ Hid (Below N W w6 ∧ Dx (fun k => X k ∨ (Value.slice A2 H1.length c2).ownBlock = some k) w6 d s ∧ w6.ownsRow N 53 2 (.slice A2 H1.length c2) H1.length (mbV H1) ∧
      (∀ k, (Value.slice A2 H1.length c2).ownBlock = some k → N ≤ k ∧ k < w6.heap.size) ∧ (∀ k, k < W.heap.size → hv.ownBlock ≠ some k → w6.heap[k]? = W.heap[k]?) ∧ W.heap.size ≤ w6.heap.size) := by
  subst hH1
  have hT : w6.ownsRow N 53 2 v2 (H ++ T).length (mbV (H ++ T)) := by
    unfold mbV
    rw [List.length_append, List.flatMap_append]
    exact ho6
  obtain ⟨A2, c2, rfl⟩ := mb_form hT
  refine ⟨A2, c2, rfl, Lib.hid ⟨(Below.refl N W).grown hg6 hNW (fun k e => (own_lt hh k e).1), ?_, hT, own_lt hT, fun k hk hne => hg6.block k hk (fun e => hne e.symm), hg6.size⟩⟩
  have hk : KeptBut W w6 (fun k => hv.ownBlock = some k) := ⟨hg6.os, hg6.tape, hg6.output, hg6.size, fun k hk hs => hg6.block k hk (fun e => hs e.symm)⟩
  obtain ⟨F, L, hL, hF⟩ := hD
  refine ⟨F, L, hL.kept hk (fun k hf hs => (hF k hf).2 (hin k hs)), fun k hf => ⟨by have := (hF k hf).1; have := hk.size; omega, fun q => ?_⟩⟩
  rcases q with q | q
  · exact (hF k hf).2 q
  · rcases hat with e | e
    · rw [e] at q
      exact (hF k hf).2 (hin k q)
    · rw [e] at q
      injection q with q
      have := (hF k hf).1
      omega
/-- Between two rounds. -/
structure LawI (N : Nat) (w wr : World) (d : Nat) (hv : Value) (H : List MB) (s : Dsk) (i : Nat) : Prop where
  below : Below N w wr
  dx : Dx (fun k => k < N ∨ hv.ownBlock = some k) wr d s
  row : wr.ownsRow N 53 2 hv H.length (mbV H)
  bet : ∃ l M, BetW s l M ∧ H.map (·.b) = contW l ∧ M ≤ 21 * i
  good : s.Good (101 * i)
  each : ∀ x ∈ H, ArgM N w x ∧ x.b.ops.length ≤ 60
  len : H.length ≤ 21 * i
theorem LawI.hX {N : Nat} {w wr : World} {d : Nat} {hv : Value} {H : List MB} {s : Dsk} {i : Nat} (h : LawI N w wr d hv H s i) (hN : N ≤ w.heap.size) : ∀ k, (k < N ∨ hv.ownBlock = some k) → k < wr.heap.size := fun k q => by
  rcases q with q | q
  · have := h.below.size; omega
  · exact (own_lt h.row k q).2
theorem LawI.start {w w1 : World} {d : Nat} {room : Int} (hD : Dx (fun k => k < w.heap.size) w1 d (Dsk.new room)) (hb : Below w.heap.size w w1) : LawI w.heap.size w w1 d (.slice none 0 0) [] (Dsk.new room) 0 :=
  ⟨hb, hD.less (fun k _ q => by rcases q with q | q; exact q; cases q), World.ownsRow_nil _ _ _ _, ⟨[], 0, BetW.new room, rfl, Nat.le_refl _⟩, .new room, (fun x hx => by cases hx), Nat.zero_le _⟩
theorem mb_one {l : List MB} (h : ∀ x ∈ l, ∃ A n c, x.v = .slice A n c) : ∀ u ∈ mbV l, u.oneCell' = true := fun u hu => by
  obtain ⟨x, hx, hu⟩ := List.mem_flatMap.1 hu
  obtain ⟨A, n, c, e⟩ := h x hx
  simp [mbC] at hu
  rcases hu with rfl | rfl
  · rfl
  · rw [e]; rfl
theorem ReadM.of_own {w : World} {B : Nat} {x : MB} (h : OwnO w B x.v x.b.ops) : ReadM w w.heap.size x := by
  obtain ⟨A, c, e⟩ := h.form
  rw [e] at h
  exact ⟨A, c, e, h.opsR.2⟩
theorem ReadM.of_arg {w w' : World} {N : Nat} {x : MB} (h : ArgM N w x) (hb : Below N w w') (hN : N ≤ w'.heap.size) : ReadM w' w'.heap.size x := by
  obtain ⟨A, c, e, hr⟩ := (h.below hb (Nat.le_refl _)).at_
  exact ⟨A, c, e, Reads.more hr hN⟩
theorem OwnM.far2 {w w' : World} {B C : Nat} {v row : Value} {l : List MB} (h : OwnM w B v l) (hC : ∀ k, row.ownBlock = some k → k < B) (hb : ∀ k, k < w.heap.size → row.ownBlock ≠ some k → w'.heap[k]? = w.heap[k]?) : OwnM w' B v l :=
  ⟨own_block h.row fun k hk => hb k (own_lt h.row k hk).2 (fun e => by have := hC k e; have := (own_lt h.row k hk).1; omega), fun x hx => own_block (h.ops x hx) fun k hk => hb k (own_lt (h.ops x hx) k hk).2 (fun e => by have := hC k e; have := (own_lt (h.ops x hx) k hk).1; omega)⟩
set_option maxRecDepth 100000 in
set_option maxHeartbeats 8000000 in
theorem lasts_any (w : World) (hG : Glo w) (room : Int) (A : Option Addr) (l : List RM) (cap : Nat) (h : RmsAt w.heap.size w A l) :
    Calls Tryz.prog 3 #[.int .i64 room, .slice A l.length cap] w fun e w' => e = .returned (.bool true) ∧ Below w.heap.size w w' := by
  obtain ⟨i0, hi0, hz0, hz1, hz2⟩ := info_parts bat_info
  have hgr := Lib.hid (greatR_any w A l cap h (Nat.le_refl _))
  replace h := Lib.hid h
  replace hG := Lib.hid hG
  go_enter Tryz.func3, Tryz.ntmps3
  go_wp2_with fail
  refine hgr.out.mono ?_
  rintro e w1 ⟨rb, rfl, hrb, hb1⟩
  have hz1' := hb1.size
  cases rb with
  | true =>
    have haw := Lib.hid (wawake_any (hG.out.below hb1 hG.out.size))
    replace hb1 := Lib.hid hb1
    clear hrb
    go_wp2_with fail
    refine haw.out.mono ?_
    rintro e w2 ⟨rfl, hb2⟩
    have hfin : Below w.heap.size w w2 := hb1.out.trans (hb2.mono hz1')
    replace hfin := Lib.hid hfin
    clear hb2
    go_wp2_with fail
    go_ret
    exact ⟨rfl, hfin.out⟩
  | false =>
    obtain ⟨hl8, hsm⟩ := hrb rfl
    clear hrb
    replace hsm := Lib.hid hsm
    have hnew := Lib.hid (New_dx (X := fun k => k < w.heap.size) room w1 (fun k q => by omega))
    replace hb1 := Lib.hid hb1
    go_wp2_with fail
    refine hnew.out.mono ?_
    rintro e w2 ⟨d, rfl, hD2, hb2, hd2⟩
    have hI0 := Lib.hid (LawI.start hD2 (hb1.out.trans (hb2.mono hz1')))
    clear hb2 hD2 hnew hgr
    go_wp2_with fail
    go_loopw [6, 7, 8, 9, 10, 11] (fun hv iv tv uv gv ev wr => ∃ (i : Nat) (hA : Option Addr) (hk : Nat) (H : List MB) (s : Dsk), i ≤ l.length ∧ iv = .int .i64 (i : Nat) ∧ hv = .slice hA H.length hk ∧ LawI w.heap.size w wr d (.slice hA H.length hk) H s i) (fun _ iv _ _ _ _ _ => l.length - (intOf iv).toNat)
    case atStart => exact ⟨0, none, 0, [], _, Nat.zero_le _, rfl, rfl, hI0.out⟩
    case round =>
      obtain ⟨i, hA, hk, H, s, hi, rfl, rfl, hI⟩ := hrel
      have hbr := hI.below
      have hwz := hbr.size
      have hGr := hG.out.below hbr hG.out.size
      by_cases hlt : i < l.length
      · have hlt' : (i : Int) < l.length := by omega
        have hxi := List.getElem?_eq_getElem hlt
        have hok := h.out.ok _ (List.getElem_mem hlt)
        have hrs := hsm.out _ (List.getElem_mem hlt)
        obtain ⟨b, o, hAe, hbN, q0, q1, q2, q3, q4, q5⟩ := (h.out.below hbr (Nat.le_refl _)).at_ hxi
        generalize l[i] = r at *
        obtain ⟨hr1, hr2, ⟨hr3, hr4⟩, hr5⟩ := hrs
        obtain ⟨l0, M, hB, hHl, hM⟩ := hI.bet
        have hbl : b < wr.heap.size := by omega
        have hgo := Lib.hid (goes_any (N0 := w.heap.size) (hI.hX (Nat.le_refl _)) (fun k q => .inl q) hG.out.size hwz hI.dx hGr hI.good (by omega) (hok.below hbr (Nat.le_refl _)) hr5 hr1 hr2 hB.cl hB.off hB.num (by omega))
        have hpl : r.plain.bats.length = r.bats.length := by simp [RM.plain]
        obtain ⟨l', hB', hcont, hrep, hu1⟩ := hB.round r.plain hok.fuse.1 (by rw [hpl]; omega)
        have htl := goesW_len s r.fuse r.plain.rows
        rw [rows_len, hpl] at htl
        unfold haveW at hcont
        simp only at hcont
        have hu1' : (goesW s r.fuse r.plain.rows).2.2.length ≤ 1 := hu1
        have hrowI := hI.row
        have heach := hI.each
        have hlenI := hI.len
        have hIX := hI.hX (Nat.le_refl _)
        rw [hAe]
        replace hAe := Lib.hid hAe
        replace hxi := Lib.hid hxi
        replace hok := Lib.hid hok
        replace hr5 := Lib.hid hr5
        replace hbr := Lib.hid hbr
        replace hGr := Lib.hid hGr
        replace hI := Lib.hid hI
        replace hB := Lib.hid hB
        replace hHl := Lib.hid hHl
        replace hcont := Lib.hid hcont
        replace hrep := Lib.hid hrep
        replace hrowI := Lib.hid hrowI
        replace heach := Lib.hid heach
        clear hu1
        go_wp2_with fail
        refine hgo.out.mono ?_
        rintro e w2 ⟨X, tv, uv, told, under, rfl, hF⟩
        obtain ⟨tA, tc, rfl⟩ := hF.go.form
        obtain ⟨uA, uc, rfl⟩ := mb_form hF.row
        have hkp := hF.go.keep
        have hy2 := hkp.size
        have hb2 : Below w.heap.size w w2 := hbr.out.trans (hkp.below (fun k q => .inl q))
        have htold : told.length ≤ r.bats.length := by
          have := congrArg List.length hF.eqT
          rw [List.length_map] at this
          omega
        have hund : under.length ≤ 1 := by
          have := congrArg List.length hF.eqU
          rw [List.length_map] at this
          omega
        have p3 := (hkp.cell (o := o + i * 6 + 3) (.inl hbN)).trans q3
        have p4 := (hkp.cell (o := o + i * 6 + 4) (.inl hbN)).trans q4
        have p5 := (hkp.cell (o := o + i * 6 + 5) (.inl hbN)).trans q5
        have hbl2 : b < w2.heap.size := by omega
        have hcr := Crash_dx hF.go.dx hF.go.hX hF.good (by omega) r.cr r.KA r.PA r.kc r.pc ((hok.out.cr.below hb2 (Nat.le_refl _)).at_ (by omega) hr3 hr4) (fun ad e => hF.go.sub _ (.inl (hok.out.cr.under (Nat.le_refl _) ad e)))
        unfold craV at hcr
        replace hcr := Lib.hid hcr
        replace hF := Lib.hid hF
        replace hb2 := Lib.hid hb2
        replace hkp := Lib.hid hkp
        clear q0 q1 q2 q3 q4 q5 hgo
        go_wp2_with fail
        refine hcr.out.mono ?_
        rintro e w3 ⟨rfl, hD3, hk3⟩
        have hz3 := hk3.size
        have hst := Lib.hid (Start_dx hD3 (fun k q => by have := hF.out.go.hX k q; omega))
        replace hk3 := Lib.hid hk3
        replace hD3 := Lib.hid hD3
        clear p3 p4 p5 hcr
        go_wp2_with fail
        refine hst.out.mono ?_
        rintro e w4 ⟨rfl, hD4, hk4⟩
        have hz4 := hk4.size
        have hfu := Lib.hid (Fuse_dx hD4 (fun k q => by have := hF.out.go.hX k q; omega) 0)
        replace hk4 := Lib.hid hk4
        clear hst hD3 hD4
        go_wp2_with fail
        refine hfu.out.mono ?_
        rintro e w5 ⟨rfl, hD5, hk5⟩
        have hz5 := hk5.size
        change Dx X w5 d (afterW s r.plain) at hD5
        have hg' : (afterW s r.plain).Good (101 * i + 100 + 1) := ((hF.out.good.crash r.cr).start).setFuse (n := 0) (by omega)
        have hk25 : Keeps X w2 w5 := (hk3.out.trans hk4.out (fun _ => id)).trans hk5 (fun _ => id)
        have hrow5 := hk25.own (hkp.out.own hrowI.out (fun k q => .inr q)) (fun k q => hF.out.go.sub k (.inr q))
        have htr5 := hk25.own hF.out.go.row hF.out.go.inX
        have hur5 := hk25.own hF.out.row hF.out.inX
        have hread5 := Reads.of_own htr5
        have hb5 : Below w.heap.size w w5 := hb2.out.trans (hk25.below (fun k q => hF.out.go.sub k (.inl q)))
        obtain ⟨H1, hH1⟩ : ∃ H1, H1 = H ++ told := ⟨_, rfl⟩
        have hH1l : H1.length = H.length + told.length := by rw [hH1, List.length_append]
        have hH1le : H1.length ≤ 21 * i + 20 := by omega
        have hH1ge : H.length + told.length ≤ H1.length := by omega
        replace hH1l := Lib.hid hH1l
        have hH1v : ∀ x ∈ told, ArgM w.heap.size w x ∧ x.b.ops.length ≤ 60 := fun x hx => ⟨hok.out.each x (hF.out.memT x hx), hr5.out x (hF.out.memT x hx)⟩
        have hUv : ∀ x ∈ under, ArgM w.heap.size w x ∧ x.b.ops.length ≤ 60 := fun x hx => ⟨hok.out.each x (hF.out.memU x hx), hr5.out x (hF.out.memU x hx)⟩
        have heach1 : ∀ x ∈ H1, ArgM w.heap.size w x ∧ x.b.ops.length ≤ 60 := fun x hx => by
          rw [hH1] at hx
          rcases List.mem_append.1 hx with hx | hx
          · exact heach.out x hx
          · exact hH1v x hx
        have hX5 : ∀ k, X k → k < w5.heap.size := fun k q => by have := hF.out.go.hX k q; omega
        have hN5 : ∀ k, k < w.heap.size → X k := fun k q => hF.out.go.sub k (.inl q)
        have hin5 : ∀ k, (Value.slice hA H.length hk).ownBlock = some k → X k := fun k q => hF.out.go.sub k (.inr q)
        have hone := mb_one (l := told) (fun x hx => by
          obtain ⟨A, c, e, _⟩ := (hH1v x hx).1.at_
          exact ⟨A, _, c, e⟩)
        have honeU := mb_one (l := under) (fun x hx => by
          obtain ⟨A, c, e, _⟩ := (hUv x hx).1.at_
          exact ⟨A, _, c, e⟩)
        have hNw5 : w.heap.size ≤ w5.heap.size := by omega
        replace hD5 := Lib.hid hD5
        replace hrow5 := Lib.hid hrow5
        replace hur5 := Lib.hid hur5
        replace hread5 := Lib.hid hread5
        replace hH1 := Lib.hid hH1
        replace hH1v := Lib.hid hH1v
        replace hUv := Lib.hid hUv
        replace heach1 := Lib.hid heach1
        replace hX5 := Lib.hid hX5
        replace hN5 := Lib.hid hN5
        replace hin5 := Lib.hid hin5
        replace hone := Lib.hid hone
        replace honeU := Lib.hid honeU
        replace hb5 := Lib.hid hb5
        clear hk3 hk4 hk5 hfu hk25 htr5
        go_wp2_with (at_builtin; refine wpList_append_any _ rfl (.tmp 43) (.tmp 44) _ rfl w.heap.size 53 i0 _ 2 32 Tryz.underlying27 hi0 hz0 hz1 hz2 rfl (by omega) _ H.length (mbV H) rfl hrow5.out w5.heap.size tA told.length tc (mbV told) rfl hread5.out hone.out ?c2 ?c3 hNw5 ?_; rotate_left 2; intro v2 w6 ho6 hg6 hat6; obtain ⟨A2, c2, rfl, hall⟩ := have_arm hH1.out hD5.out hX5.out hN5.out hNw5 hrow5.out hin5.out ho6 hg6 hat6; clear ho6 hg6 hat6)
        case c2 => simp only [maxLen]; omega
        case c3 => omega
        obtain ⟨hb6, hD6, hrow6, hown6, hbk6, hz6⟩ := hall.out
        have hb6' : Below w.heap.size w w6 := hb5.out.trans hb6
        have hur6 : w6.ownsRow wr.heap.size 53 2 (.slice uA under.length uc) under.length (mbV under) := own_block hur5.out fun k q => hbk6 k (own_lt hur5.out k q).2 (fun e => by have := (own_lt hur5.out k q).1; have := (own_lt hrowI.out k e).2; omega)
        have hgw := Lib.hid (Replay_any hD6 (hG.out.below hb6' hG.out.size) hg' (by omega) (by have := hg'.names; omega) hB'.cl.ne (hB'.cl.raws hB'.dir hD6.rising hB'.num (by rw [hpl]; omega)).1 hB'.off 0)
        replace hD6 := Lib.hid hD6
        replace hrow6 := Lib.hid hrow6
        replace hown6 := Lib.hid hown6
        replace hur6 := Lib.hid hur6
        replace hb6' := Lib.hid hb6'
        replace hB' := Lib.hid hB'
        clear hb6 hbk6 hall hrow5 hur5 hread5 hD5 hone
        go_wp2_with fail
        refine hgw.out.mono ?_
        rintro e w7 ⟨gv, gl, rfl, hgm, hgl, hb7⟩
        obtain ⟨gA, gc, rfl⟩ := hgm.form
        rw [hrep.out] at hgl
        simp only at hgl
        have hz7 := hb7.size
        have hD7 := hD6.out.grow hb7 (fun k => .inl)
        have hrow7 := own_below2 hrow6.out hb7
        have hur7 := own_below2 hur6.out hb7
        have hb7' : Below w.heap.size w w7 := hb6'.out.trans (hb7.mono (by omega))
        have hcnt : gl.length = (contW l').length := by rw [← hgl, List.length_map]
        have hH1b : H1.map (·.b) = contW l0 ++ (goesW s r.fuse r.plain.rows).2.1 := by rw [hH1.out, List.map_append, hHl.out, hF.out.eqT]
        have hU1 : under.map (·.b) = (goesW s r.fuse r.plain.rows).2.2 := hF.out.eqU
        have hc2 := hcont.out
        rw [hrep.out] at hc2
        simp only at hc2
        rw [show (goesW s r.plain.fuse r.plain.rows) = goesW s r.fuse r.plain.rows from rfl, ← hH1b, ← hU1, List.length_map, List.length_map, ← hcnt] at hc2
        replace hgl := Lib.hid hgl
        replace hb7' := Lib.hid hb7'
        replace hcnt := Lib.hid hcnt
        clear hb7 hgw hur6 hD6 hb6' hrow6 hH1b
        by_cases hcmp : gl.length = H1.length + under.length
        · have hcmp' : ((gl.length : Nat) : Int) ≤ H1.length + under.length := by omega
          have hcmp2 : ((H1.length : Nat) : Int) + under.length ≤ gl.length := by omega
          rw [if_pos hcmp] at hc2
          obtain ⟨H2, hH2e⟩ : ∃ H2, H2 = H1 ++ under := ⟨_, rfl⟩
          have hH2 : H2.map (·.b) = contW l' := by rw [hH2e, List.map_append, hc2]
          have hH2l : H2.length = H1.length + under.length := by rw [hH2e, List.length_append]
          have hH2le : H2.length ≤ 21 * i + 21 := by omega
          replace hH2l := Lib.hid hH2l
          have heach2 : ∀ x ∈ H2, ArgM w.heap.size w x ∧ x.b.ops.length ≤ 60 := fun x hx => by
            rw [hH2e] at hx
            rcases List.mem_append.1 hx with hx | hx
            · exact heach1.out x hx
            · exact hUv.out x hx
          have hread7 := Reads.of_own hur7
          have hX7 : ∀ k, (X k ∨ (Value.slice A2 H1.length c2).ownBlock = some k) → k < w7.heap.size := fun k q => by
            rcases q with q | q
            · have := hX5.out k q; omega
            · exact (own_lt hrow7 k q).2
          have hNw7 : w.heap.size ≤ w7.heap.size := by omega
          have hN7 : ∀ k, k < w.heap.size → (X k ∨ (Value.slice A2 H1.length c2).ownBlock = some k) := fun k q => .inl (hN5.out k q)
          replace hcmp := Lib.hid hcmp
          replace hH2e := Lib.hid hH2e
          replace hH2 := Lib.hid hH2
          replace heach2 := Lib.hid heach2
          replace hread7 := Lib.hid hread7
          replace hX7 := Lib.hid hX7
          replace hN7 := Lib.hid hN7
          replace hrow7 := Lib.hid hrow7
          replace hD7 := Lib.hid hD7
          replace hgm := Lib.hid hgm
          replace hU1 := Lib.hid hU1
          clear hc2 hur7
          go_wp2_with (at_builtin; refine wpList_append_any _ rfl (.tmp 61) (.tmp 62) _ rfl w.heap.size 53 i0 _ 2 32 Tryz.underlying27 hi0 hz0 hz1 hz2 rfl (by omega) _ H1.length (mbV H1) rfl hrow7.out w7.heap.size uA under.length uc (mbV under) rfl hread7.out honeU.out ?c2 ?c3 hNw7 ?_; rotate_left 2; intro v2 w8 ho8 hg8 hat8; obtain ⟨A5, c5, rfl, hall⟩ := have_arm hH2e.out hD7.out hX7.out hN7.out hNw7 hrow7.out (fun k => .inr) ho8 hg8 hat8; clear ho8 hg8 hat8)
          case c2 => simp only [maxLen]; omega
          case c3 => omega
          obtain ⟨hb8', hD8, hrow8, hown8, hbk8, hz8'⟩ := hall.out
          have hb8 : Below w.heap.size w w8 := hb7'.out.trans hb8'
          replace hgm := hgm.out.far2 (C := 0) (row := .slice A2 H1.length c2) (fun k q => by have := (hown6.out k q).2; omega) hbk8
          replace heach2 := heach2.out
          replace hH2 := hH2.out
          have hXf : ∀ k, (k < w.heap.size ∨ (Value.slice A5 H2.length c5).ownBlock = some k) → ((X k ∨ (Value.slice A2 H1.length c2).ownBlock = some k) ∨ (Value.slice A5 H2.length c5).ownBlock = some k) := fun k q => q.imp (fun q => .inl (hN5.out k q)) id
          replace hXf := Lib.hid hXf
          clear hb8' hbk8 hall hown8
          have hlen : gl.length = (H2).length := by
            have := congrArg List.length (hgl.out.trans hH2.symm)
            rw [List.length_map, List.length_map] at this
            exact this
          rw [hlen] at hgm
          rw [hlen]
          have hz8 := hb8.size
          have hgv := Lib.hid (given_any (c := c5) (Reads.of_own hrow8) (Nat.le_refl _) (fun x hx => by
            obtain ⟨A, c, e, _⟩ := (heach2 x hx).1.at_
            exact ⟨A, c, e⟩) (by omega))
          replace hlen := Lib.hid hlen
          replace hgm := Lib.hid hgm
          replace hrow8 := Lib.hid hrow8
          replace hD8 := Lib.hid hD8
          replace hH2 := Lib.hid hH2
          replace hb8 := Lib.hid hb8
          replace heach2 := Lib.hid heach2
          go_wp2_with fail
          refine hgv.out.mono ?_
          rintro e w9 ⟨A3, c3, rfl, hrow9, hb9⟩
          have hz9 := hb9.size
          have hD9 := hD8.out.grow hb9 (fun k => .inl)
          have hrow89 := own_below2 hrow8.out hb9
          have hgm9 := hgm.out.below hb9
          have hb9' : Below w.heap.size w w9 := hb8.out.trans (hb9.mono (by omega))
          have hhe : gl.map (·.b) = (H2).map (·.b) := hgl.out.trans hH2.out.symm
          have hsame := Lib.hid (BSame_any (ca := gc) (cb := c3) (n := (H2).length) (Reads.of_own (hlen.out ▸ hgm9.row)) (Reads.of_own hrow9) (Nat.le_refl _) hlen.out rfl (by omega) (fun x hx => .of_own (hgm9.ops x hx)) (fun x hx => .of_arg (heach2.out x hx).1 hb9' (by omega)) hhe (fun x hx => by
            have : x.b ∈ (H2).map (·.b) := hhe ▸ List.mem_map_of_mem hx
            obtain ⟨y, hy, e⟩ := List.mem_map.1 this
            have := (heach2.out y hy).2
            rw [← e]
            omega))
          replace hD9 := Lib.hid hD9
          replace hrow89 := Lib.hid hrow89
          replace hb9' := Lib.hid hb9'
          clear hrow9 hb9 hgm9 hgv hhe
          go_wp2_with fail
          refine hsame.out.mono ?_
          rintro e w10 ⟨rfl, hb10⟩
          have hfin : LawI w.heap.size w w10 d (.slice A5 (H2).length c5) H2 (afterW s r.plain) (i + 1) :=
            ⟨hb9'.out.trans (hb10.mono (by omega)), (hD9.out.grow hb10 (fun k => .inl)).less (fun k _ q => q.elim (fun q => hXf.out k (.inl q)) (fun q => hXf.out k (.inr q))), own_below2 hrow89.out hb10, ⟨l', _, hB', hH2.out, by rw [hpl]; omega⟩, hg'.more (by omega), heach2.out, by omega⟩
          replace hfin := Lib.hid hfin
          clear hb10
          go_wp2_with fail
          exact ⟨⟨i + 1, _, _, H2, _, by omega, by go_num, rfl, hfin.out⟩, by simp [intOf]; omega⟩
        · have hcmp' : ¬ ((gl.length : Nat) : Int) = H1.length + under.length := by omega
          rw [if_neg hcmp] at hc2
          have hH2 : H1.map (·.b) = contW l' := hc2.symm
          have hH2le : H1.length ≤ 21 * i + 21 := by omega
          have hun : 0 < under.length := by
            have := congrArg List.length (hgl.out.trans hH2.symm)
            rw [List.length_map, List.length_map] at this
            omega
          have hun' : (0 : Int) < under.length := by omega
          have hD8 := hD7
          have hrow8 := hrow7
          have hb8 := hb7'.out
          have heach2 := heach1.out
          have hXf : ∀ k, (k < w.heap.size ∨ (Value.slice A2 H1.length c2).ownBlock = some k) → (X k ∨ (Value.slice A2 H1.length c2).ownBlock = some k) := fun k q => q.imp (fun q => hN5.out k q) id
          replace hXf := Lib.hid hXf
          replace hcmp := Lib.hid hcmp
          clear hD7 hrow7 hc2 hur7
          have hlen : gl.length = (H1).length := by
            have := congrArg List.length (hgl.out.trans hH2.symm)
            rw [List.length_map, List.length_map] at this
            exact this
          rw [hlen] at hgm
          rw [hlen]
          have hz8 := hb8.size
          have hgv := Lib.hid (given_any (c := c2) (Reads.of_own hrow8) (Nat.le_refl _) (fun x hx => by
            obtain ⟨A, c, e, _⟩ := (heach2 x hx).1.at_
            exact ⟨A, c, e⟩) (by omega))
          replace hlen := Lib.hid hlen
          replace hgm := Lib.hid hgm
          replace hrow8 := Lib.hid hrow8
          replace hD8 := Lib.hid hD8
          replace hH2 := Lib.hid hH2
          replace hb8 := Lib.hid hb8
          replace heach2 := Lib.hid heach2
          go_wp2_with fail
          refine hgv.out.mono ?_
          rintro e w9 ⟨A3, c3, rfl, hrow9, hb9⟩
          have hz9 := hb9.size
          have hD9 := hD8.out.grow hb9 (fun k => .inl)
          have hrow89 := own_below2 hrow8.out hb9
          have hgm9 := hgm.out.below hb9
          have hb9' : Below w.heap.size w w9 := hb8.out.trans (hb9.mono (by omega))
          have hhe : gl.map (·.b) = (H1).map (·.b) := hgl.out.trans hH2.out.symm
          have hsame := Lib.hid (BSame_any (ca := gc) (cb := c3) (n := (H1).length) (Reads.of_own (hlen.out ▸ hgm9.row)) (Reads.of_own hrow9) (Nat.le_refl _) hlen.out rfl (by omega) (fun x hx => .of_own (hgm9.ops x hx)) (fun x hx => .of_arg (heach2.out x hx).1 hb9' (by omega)) hhe (fun x hx => by
            have : x.b ∈ (H1).map (·.b) := hhe ▸ List.mem_map_of_mem hx
            obtain ⟨y, hy, e⟩ := List.mem_map.1 this
            have := (heach2.out y hy).2
            rw [← e]
            omega))
          replace hD9 := Lib.hid hD9
          replace hrow89 := Lib.hid hrow89
          replace hb9' := Lib.hid hb9'
          clear hrow9 hb9 hgm9 hgv hhe
          go_wp2_with fail
          refine hsame.out.mono ?_
          rintro e w10 ⟨rfl, hb10⟩
          have hfin : LawI w.heap.size w w10 d (.slice A2 (H1).length c2) H1 (afterW s r.plain) (i + 1) :=
            ⟨hb9'.out.trans (hb10.mono (by omega)), (hD9.out.grow hb10 (fun k => .inl)).less (fun k _ q => q.elim (fun q => hXf.out k (.inl q)) (fun q => hXf.out k (.inr q))), own_below2 hrow89.out hb10, ⟨l', _, hB', hH2.out, by rw [hpl]; omega⟩, hg'.more (by omega), heach2.out, by omega⟩
          replace hfin := Lib.hid hfin
          clear hb10
          go_wp2_with fail
          exact ⟨⟨i + 1, _, _, H1, _, by omega, by go_num, rfl, hfin.out⟩, by simp [intOf]; omega⟩
      · have hlt' : ¬ (i : Int) < l.length := by omega
        have haw := Lib.hid (wawake_any hGr)
        replace hbr := Lib.hid hbr
        replace hI := Lib.hid hI
        replace hGr := Lib.hid hGr
        go_wp2_with fail
        refine haw.out.mono ?_
        rintro e w2 ⟨rfl, hb2⟩
        have hfin : Below w.heap.size w w2 := hbr.out.trans (hb2.mono hwz)
        replace hfin := Lib.hid hfin
        clear hb2
        go_wp2_with fail
        go_ret
        exact ⟨rfl, hfin.out⟩
end Go.Proofs.YtdbpfemkjfogoaaGreatDoor
namespace Go.Proofs.YtdbpfemkjfogoaaGreatDoor
open Go.ChangeShapes Go.WideShapes Go.ChangeAt Go.RowKit Go.Joins
set_option linter.unusedVariables false
theorem Tryzown : ownKnob Tryz.prog.godebug = none := by kernel_rfl
theorem Tryzlaid : laidOutB Tryz.prog = true := by kernel_rfl
section
variable {H : Type} {enc : TypeId × Value → H} {P : Program}
theorem trodAll_below (hl : laidOutB P = true) {W W' : World} (hb : Below W.heap.size W W') : ∀ (ts : List TypeId) (vs : List Value) (ds : List (DataW H)) (ps : List MemPlace),
    (∀ t ∈ ts, P.readableRec t = true ∧ t < P.types.size) → DataW.TrodAll enc P W 0 (fun _ => true) true ts vs ds ps → (∀ x ∈ ps, x.block < W.heap.size) →
    DataW.TrodAll enc P W' 0 (fun b => decide (b < W.heap.size)) true ts vs ds ps := by
  intro ts
  induction ts with
  | nil =>
    intro vs ds ps _ h _
    cases vs <;> cases ds <;> first | exact h | exact h.elim
  | cons t ts ih =>
    intro vs ds ps ht h hx
    cases vs with
    | nil => exact h.elim
    | cons v vs =>
      cases ds with
      | nil => exact h.elim
      | cons d ds =>
        obtain ⟨p, q, hd, hr, rfl⟩ := h
        have h0 := ht t (List.mem_cons_self ..)
        exact ⟨p, q, Below.trod hl h0.1 h0.2 hd hb (fun x hm => hx x (List.mem_append_left _ hm)), ih vs ds q (fun t' hm => ht t' (List.mem_cons_of_mem _ hm)) hr (fun x hm => hx x (List.mem_append_right _ hm)), rfl⟩
/-- A law that returned true over a world that has only grown. -/
theorem law_post (hl : laidOutB P = true) {f : Func} {s : ChangeSpec} {W W' : World} {args : Array Value} {ds gs : List (DataW H)} {before : List MemPlace} {tb : TypeId}
    (hbool : P.underlying tb = some .bool)
    (hW : DataW.Whole enc P f.params.toList s.vars false W args.toList ds gs before) (hv : s.vars = []) (hr : f.resultTypes = #[tb])
    (hread0 : (f.params.toList.all fun t => P.readableRec t && decide (t < P.types.size)) = true)
    (hfn : s.fn H (ds ++ gs) = { results := [.lit (.bool true)], args := ds }) (hb : Below W.heap.size W W') :
    s.post enc P f false true false false W args (.bool true) W' := by
  have hread : ∀ t ∈ f.params.toList, P.readableRec t = true ∧ t < P.types.size := fun t ht => by simpa using List.all_eq_true.1 hread0 t ht
  have hlt := hW.lt
  obtain ⟨p, q, hA, hV, hpq, hz, hnd⟩ := hW
  rw [hv] at hV
  cases gs with
  | cons _ _ => exact hV.elim
  | nil =>
    have hq : q = [] := hV
    subst hq
    refine ⟨ds, [], before, [], p, [], ⟨p, [], hA, by rw [hv]; exact rfl, hpq, hz, hnd⟩, ?_, ?_, ?_, ?_, fun h => by cases h⟩
    · rw [hfn, hr]
      exact trodAll_mk1 (shut_bool hbool true)
    · rw [hfn]
      exact trodAll_below hl hb _ _ _ _ hread hA (fun x hx => by simpa using hlt x (by rw [hpq]; exact List.mem_append_left _ hx))
    · rw [hfn, hv]; exact rfl
    · exact hb.frame _
end
end Go.Proofs.YtdbpfemkjfogoaaGreatDoor
namespace Go.Proofs.YtdbpfemkjfogoaaGreatDoor
open Go.ChangeShapes Go.WideShapes Go.ChangeAt Go.RowKit Go.Joins Go.Deep
open Go.ChangeMaps (open_string)
set_option linter.unusedVariables false
set_option linter.unusedSimpArgs false
theorem plain_of_cell {w : World} {a : Addr} {v : Value} (h : w.cell? a = some v) : a = ⟨a.block, a.off, none⟩ := by
  obtain ⟨b, o, s⟩ := a
  cases s with
  | none => rfl
  | some s =>
    unfold World.cell? at h
    split at h <;> simp at h
theorem list_of {T : Type} {P : Nat → T → Prop} : ∀ (n : Nat), (∀ i, i < n → ∃ x, P i x) → ∃ l : List T, l.length = n ∧ ∀ i x, l[i]? = some x → P i x
  | 0, _ => ⟨[], rfl, fun i x h => by simp at h⟩
  | n + 1, h => by
    obtain ⟨l, hl, hp⟩ := list_of n (fun i hi => h i (by omega))
    obtain ⟨x, hx⟩ := h n (by omega)
    refine ⟨l ++ [x], by simp [hl], fun i y hy => ?_⟩
    by_cases hi : i < l.length
    · rw [List.getElem?_append_left hi] at hy
      exact hp i y hy
    · rw [List.getElem?_append_right (by omega)] at hy
      have : i - l.length = 0 := by
        rcases Nat.eq_zero_or_pos (i - l.length) with h0 | h0
        · exact h0
        · rw [List.getElem?_eq_none (by simp; omega)] at hy; cases hy
      rw [this] at hy
      simp at hy
      subst hy
      have : i = n := by omega
      subst this
      exact hx
theorem mem_at {T : Type} {P : Nat → T → Prop} {l : List T} (h : ∀ i x, l[i]? = some x → P i x) {x : T} (hx : x ∈ l) : ∃ i, P i x := by
  obtain ⟨i, hi, rfl⟩ := List.mem_iff_getElem.1 hx
  exact ⟨i, h i _ (List.getElem?_eq_getElem hi)⟩
/-- A list of rows of so many values each. -/
theorem flat_at {T : Type} {f : T → List Value} {m : Nat} (hm : 0 < m) (hf : ∀ x, (f x).length = m) : ∀ (l : List T) (j : Nat) (u : Value), (l.flatMap f)[j]? = some u → ∃ x, l[j / m]? = some x ∧ (f x)[j % m]? = some u
  | [], j, u, h => by simp at h
  | a :: l, j, u, h => by
    rw [List.flatMap_cons] at h
    by_cases hj : j < m
    · rw [List.getElem?_append_left (by rw [hf]; exact hj)] at h
      exact ⟨a, by rw [Nat.div_eq_of_lt hj]; rfl, by rw [Nat.mod_eq_of_lt hj]; exact h⟩
    · rw [List.getElem?_append_right (by rw [hf]; omega), hf] at h
      obtain ⟨x, h1, h2⟩ := flat_at hm hf l (j - m) u h
      refine ⟨x, ?_, ?_⟩
      · have : j / m = (j - m) / m + 1 := by rw [Nat.div_eq_sub_div hm (by omega)]
        rw [this]
        simpa using h1
      · have : j % m = (j - m) % m := Nat.mod_eq_sub_mod (by omega)
        rw [this]
        exact h2
theorem flat_len {T : Type} {f : T → List Value} {m : Nat} (hf : ∀ x, (f x).length = m) (l : List T) : (l.flatMap f).length = l.length * m := by
  induction l with
  | nil => simp
  | cons a l ih => rw [List.flatMap_cons, List.length_append, hf, ih, List.length_cons, Nat.add_mul]; omega
theorem k3 : Tryz.prog.cellsOf 3 = 1 := by kernel_rfl
theorem k86 : Tryz.prog.cellsOf 152 = 1 := by kernel_rfl
theorem k23 : Tryz.prog.cellsOf 31 = 1 := by kernel_rfl
theorem k24 : Tryz.prog.cellsOf 32 = 1 := by kernel_rfl
theorem k5 : Tryz.prog.cellsOf 5 = 1 := by kernel_rfl
theorem k9 : Tryz.prog.cellsOf 9 = 1 := by kernel_rfl
theorem k26 : Tryz.prog.cellsOf 34 = 3 := by kernel_rfl
theorem keepV_flat : ∀ l : List Int, l.flatMap (fun x => [Value.int .i64 x]) = keepV l
  | [] => rfl
  | a :: l => by
    rw [List.flatMap_cons, keepV_flat l]
    rfl
section
variable {H : Type} {enc : TypeId × Value → H} {W : World}
/-- A row whose items are read one by one. -/
theorem row_open {T : Type} {t e m n : Nat} {v : Value} {y : DataW H × List MemPlace} (ht : Tryz.prog.underlying t = some (.slice e)) (hC : Tryz.prog.cellsOf e = m) (hm : 0 < m) (f : T → List Value) (hf : ∀ x, (f x).length = m) (Q : T → Prop)
    (hone : ∀ (n : Nat) (cs : List Value) (z : DataW H × List MemPlace), (∀ x ∈ z.2, x.block < W.heap.size) → DataW.trod enc Tryz.prog W 0 (fun _ => true) true n e cs = some z → ∃ x, cs = f x ∧ Q x)
    (h : DataW.trod enc Tryz.prog W 0 (fun _ => true) true n t [v] = some y) (hp : ∀ x ∈ y.2, x.block < W.heap.size) : ∃ (A : Option Addr) (l : List T) (cap : Nat), v = .slice A l.length cap ∧ Reads W W.heap.size m A l.length (l.flatMap f) ∧ l.length ≤ maxLen ∧ ∀ x ∈ l, Q x := by
  rcases open_slice ht h with ⟨hcs, hx⟩ | ⟨a, len, cap, mm, n', D, Pl, hcs, hb, hl, hcm, hmm, hx, hi⟩
  · simp at hcs
    subst hcs
    exact ⟨none, [], 0, rfl, Reads.none_, by simp, by simp⟩
  · simp at hcs
    subst hcs
    simp at hmm
    subst hmm
    by_cases hn0 : len = 0
    · subst hn0
      exact ⟨some a, [], mm, rfl, ⟨by simp, fun h => absurd h (by simp)⟩, by simp, by simp⟩
    have hall : ∀ k, k < len → ∃ x, Q x ∧ ∀ j u, (f x)[j]? = some u → W.cell? (a.add (k * m + j)) = some u := by
      intro k hk
      obtain ⟨cs', hc, ht'⟩ := hi k (by omega)
      rw [hC] at hc
      obtain ⟨_, hcl, hat⟩ := World.cells?_some hc
      obtain ⟨x, rfl, hq⟩ := hone n' cs' _ (fun z hz => hp z (by
        rw [hx]
        exact List.mem_append_right _ (List.mem_flatMap.2 ⟨k, List.mem_range.2 (by omega), hz⟩))) ht'
      refine ⟨x, hq, fun j u hu => ?_⟩
      have hj : j < m := by rw [← hf x]; exact (List.getElem?_eq_some_iff.1 hu).1
      have := hat j hj
      rw [Go.Deep.add_add] at this
      rw [this, hu]
    obtain ⟨x0, _, h0⟩ := hall 0 (by omega)
    have hf0 : (f x0)[0]? = some ((f x0)[0]'(by rw [hf]; exact hm)) := List.getElem?_eq_getElem (by rw [hf]; exact hm)
    have hc0 := h0 0 _ hf0
    have e0 : a.add (0 * m + 0) = a := by unfold Addr.add; simp
    rw [e0] at hc0
    have hpl := plain_of_cell hc0
    have hblk : a.block < W.heap.size := hp (.cell a.block a.off) (by
      rw [hx]
      refine List.mem_append_left _ ?_
      rw [hpl, hC]
      have : 0 < mm * m := Nat.mul_pos (by omega) hm
      simp [MemPlace.row]
      omega)
    obtain ⟨l, hl2, hP⟩ := list_of len hall
    refine ⟨some a, l, mm, by rw [hl2], ⟨flat_len hf l, fun hn => ⟨a, rfl, hblk, fun j u hu => ?_⟩⟩, by rw [hl2]; omega, fun x hx => ?_⟩
    · obtain ⟨x, h1, h2⟩ := flat_at hm hf l j u hu
      have := (hP _ _ h1).2 _ _ h2
      rw [show j / m * m + j % m = j from by rw [Nat.mul_comm]; exact Nat.div_add_mod j m] at this
      exact this
    · obtain ⟨i, hq, _⟩ := mem_at hP hx
      exact hq
set_option maxRecDepth 100000 in
theorem ints_open {n : Nat} {v : Value} {y : DataW H × List MemPlace} (h : DataW.trod enc Tryz.prog W 0 (fun _ => true) true n 31 [v] = some y) (hp : ∀ x ∈ y.2, x.block < W.heap.size) :
    ∃ (A : Option Addr) (l : List Int) (cap : Nat), v = .slice A l.length cap ∧ Reads W W.heap.size 1 A l.length (keepV l) ∧ l.length ≤ maxLen ∧ ∀ x ∈ l, -9223372036854775808 ≤ x ∧ x ≤ 9223372036854775807 := by
  obtain ⟨A, l, cap, e1, e2, e3, e4⟩ := row_open (T := Int) Tryz.underlying31 (by kernel_rfl : Tryz.prog.cellsOf 3 = 1) (by omega) (fun x => [.int .i64 x]) (fun _ => rfl) (fun x => -9223372036854775808 ≤ x ∧ x ≤ 9223372036854775807) (fun n cs z _ hz => by
    obtain ⟨x, e, _, hw⟩ := DataW.trod_int Tryz.underlying3 hz
    exact ⟨x, e, bounds_i64 hw⟩) h hp
  have hk := keepV_flat l
  exact ⟨A, l, cap, e1, by rw [← hk]; exact e2, e3, e4⟩
set_option maxRecDepth 100000 in
theorem spoils_open {n : Nat} {v : Value} {y : DataW H × List MemPlace} (h : DataW.trod enc Tryz.prog W 0 (fun _ => true) true n 32 [v] = some y) (hp : ∀ x ∈ y.2, x.block < W.heap.size) :
    ∃ (A : Option Addr) (l : List (Int × Nat)) (cap : Nat), v = .slice A l.length cap ∧ Reads W W.heap.size 2 A l.length (spoilV l) ∧ l.length ≤ maxLen ∧ ∀ p ∈ l, -9223372036854775808 ≤ p.1 ∧ p.1 ≤ 9223372036854775807 ∧ p.2 < 4294967296 := by
  refine row_open (T := Int × Nat) Tryz.underlying32 (by kernel_rfl : Tryz.prog.cellsOf 154 = 2) (by omega) (fun p => [.int .i64 p.1, .int .u32 (p.2 : Nat)]) (fun _ => rfl) (fun p => -9223372036854775808 ≤ p.1 ∧ p.1 ≤ 9223372036854775807 ∧ p.2 < 4294967296) (fun n cs z _ hz => ?_) h hp
  obtain ⟨y0, y1, n', _, hl, h0, h1⟩ := trod_struct2 Tryz.underlying154 hz
  rw [(by kernel_rfl : Tryz.prog.cellsOf 154 = 2)] at hl
  match cs, hl with
  | [c0, c1], _ =>
    replace h0 : DataW.trod enc Tryz.prog W 0 (fun _ => true) true n' 3 [c0] = some y0 := by
      have h := h0
      try dsimp only at h
      rw [k3] at h
      exact h
    replace h1 : DataW.trod enc Tryz.prog W 0 (fun _ => true) true n' 152 [c1] = some y1 := by
      have h := h1
      try dsimp only at h
      rw [k86] at h
      exact h
    obtain ⟨x0, e0, _, w0⟩ := DataW.trod_int Tryz.underlying3 h0
    obtain ⟨x1, e1, _, w1⟩ := DataW.trod_int Tryz.underlying152 h1
    simp at e0 e1
    subst e0 e1
    have b0 := bounds_i64 w0
    have b1 := bounds_u32 w1
    refine ⟨(x0, x1.toNat), ?_, b0.1, b0.2, by simp only []; omega⟩
    simp only []
    rw [show ((x1.toNat : Nat) : Int) = x1 from by omega]
set_option maxRecDepth 100000 in
/-- A crash's three cells. -/
theorem cra_open {n : Nat} {cs : List Value} {y : DataW H × List MemPlace} (h : DataW.trod enc Tryz.prog W 0 (fun _ => true) true n 34 cs = some y) (hp : ∀ x ∈ y.2, x.block < W.heap.size) :
    ∃ (c : Cra) (KA : Option Addr) (kc : Nat) (PA : Option Addr) (pc : Nat), cs = [.int .i64 c.names, .slice KA c.keep.length kc, .slice PA c.spoil.length pc] ∧ CraR W.heap.size W c KA PA ∧ c.keep.length ≤ maxLen ∧ c.spoil.length ≤ maxLen := by
  obtain ⟨y0, y1, y2, n', hx, hl, h0, h1, h2⟩ := trod_struct3 Tryz.underlying34 h
  rw [(by kernel_rfl : Tryz.prog.cellsOf 34 = 3)] at hl
  match cs, hl with
  | [c0, c1, c2], _ =>
    replace h0 : DataW.trod enc Tryz.prog W 0 (fun _ => true) true n' 3 [c0] = some y0 := by
      have h := h0
      try dsimp only at h
      rw [k3] at h
      exact h
    replace h1 : DataW.trod enc Tryz.prog W 0 (fun _ => true) true n' 31 [c1] = some y1 := by
      have h := h1
      try dsimp only at h
      rw [k23] at h
      exact h
    replace h2 : DataW.trod enc Tryz.prog W 0 (fun _ => true) true n' 32 [c2] = some y2 := by
      have h := h2
      try dsimp only at h
      rw [k24] at h
      exact h
    obtain ⟨x0, e0, _, w0⟩ := DataW.trod_int Tryz.underlying3 h0
    simp at e0
    subst e0
    rw [hx] at hp
    obtain ⟨KA, kl, kc, rfl, r1, l1, b1⟩ := ints_open h1 (fun x hx => hp x (by simp; exact .inr (.inl hx)))
    obtain ⟨PA, pl, pc, rfl, r2, l2, b2⟩ := spoils_open h2 (fun x hx => hp x (by simp; exact .inr (.inr hx)))
    exact ⟨⟨x0, kl, pl⟩, KA, kc, PA, pc, rfl, ⟨r1, r2, b1, b2⟩, l1, l2⟩
set_option maxRecDepth 100000 in
/-- An act's seven cells. -/
theorem act_open {n : Nat} {cs : List Value} {y : DataW H × List MemPlace} (h : DataW.trod enc Tryz.prog W 0 (fun _ => true) true n 69 cs = some y) (hp : ∀ x ∈ y.2, x.block < W.heap.size) :
    ∃ m : MAct, cs = mactC m ∧ MOk W.heap.size W m := by
  obtain ⟨xs, n', _, hx, hl, hlen, hf⟩ := DataW.trod_struct Tryz.underlying69 h
  rw [(by kernel_rfl : Tryz.prog.cellsOf 69 = 7)] at hl
  match cs, hl with
  | [c0, c1, c2, c3, c4, c5, c6], _ =>
    have h0 := hf 0 _ rfl
    have h1 := hf 1 _ rfl
    have h2 := hf 2 _ rfl
    have h3 := hf 3 _ rfl
    have h4 := hf 4 _ rfl
    match xs, hlen with
    | [z0, z1, z2, z3, z4], _ =>
      replace h0 : DataW.trod enc Tryz.prog W 0 (fun _ => true) true n' 5 [c0] = some z0 := by
        have h : DataW.trod enc Tryz.prog W 0 (fun _ => true) true n' 5 ((List.drop 0 [c0, c1, c2, c3, c4, c5, c6]).take (Tryz.prog.cellsOf 5)) = some z0 := h0
        rw [k5] at h
        exact h
      replace h1 : DataW.trod enc Tryz.prog W 0 (fun _ => true) true n' 9 [c1] = some z1 := by
        have h : DataW.trod enc Tryz.prog W 0 (fun _ => true) true n' 9 ((List.drop 1 [c0, c1, c2, c3, c4, c5, c6]).take (Tryz.prog.cellsOf 9)) = some z1 := h1
        rw [k9] at h
        exact h
      replace h2 : DataW.trod enc Tryz.prog W 0 (fun _ => true) true n' 9 [c2] = some z2 := by
        have h : DataW.trod enc Tryz.prog W 0 (fun _ => true) true n' 9 ((List.drop 2 [c0, c1, c2, c3, c4, c5, c6]).take (Tryz.prog.cellsOf 9)) = some z2 := h2
        rw [k9] at h
        exact h
      replace h3 : DataW.trod enc Tryz.prog W 0 (fun _ => true) true n' 3 [c3] = some z3 := by
        have h : DataW.trod enc Tryz.prog W 0 (fun _ => true) true n' 3 ((List.drop 3 [c0, c1, c2, c3, c4, c5, c6]).take (Tryz.prog.cellsOf 3)) = some z3 := h3
        rw [k3] at h
        exact h
      replace h4 : DataW.trod enc Tryz.prog W 0 (fun _ => true) true n' 34 [c4, c5, c6] = some z4 := by
        have h : DataW.trod enc Tryz.prog W 0 (fun _ => true) true n' 34 ((List.drop 4 [c0, c1, c2, c3, c4, c5, c6]).take (Tryz.prog.cellsOf 34)) = some z4 := h4
        rw [k26] at h
        exact h
      obtain ⟨x0, e0, _, w0⟩ := DataW.trod_int Tryz.underlying5 h0
      obtain ⟨x1, e1, _, w1⟩ := DataW.trod_string Tryz.underlying9 h1
      obtain ⟨x2, e2, _, w2⟩ := DataW.trod_string Tryz.underlying9 h2
      obtain ⟨x3, e3, _, w3⟩ := DataW.trod_int Tryz.underlying3 h3
      simp at e0 e1 e2 e3
      subst e0 e1 e2 e3
      have b0 := bounds_u8 w0
      have b3 := bounds_i64 w3
      rw [hx] at hp
      obtain ⟨c, KA, kc, PA, pc, e4, hr, l1, l2⟩ := cra_open h4 (fun x hx => hp x (by simp; exact .inr (.inr (.inr (.inr hx)))))
      simp at e4
      obtain ⟨rfl, rfl, rfl⟩ := e4
      refine ⟨⟨⟨x0.toNat, x1, x2, x3, c⟩, KA, kc, PA, pc⟩, ?_, ⟨hr, by simp only []; omega, w1, w2, b3.2, l1, l2⟩⟩
      unfold mactC
      simp only []
      rw [show ((x0.toNat : Nat) : Int) = x0 from by omega]
end
set_option maxRecDepth 100000 in
theorem acts_open {H : Type} {enc : TypeId × Value → H} {W : World} {base : Nat} {v : Value} {d : DataW H} {p : List MemPlace}
    (hv : Value.okWide Tryz.prog W .any base 122 v) (h : DataW.Trod enc Tryz.prog W 0 (fun _ => true) true 122 v d p) (hp : ∀ x ∈ p, x.block < W.heap.size) :
    ∃ A l cap, v = .slice A l.length cap ∧ ActsAt W.heap.size W A l ∧ l.length ≤ maxLen := by
  obtain ⟨A, n, cap, rfl⟩ := okWide_slice Tryz.underlying122 hv
  obtain ⟨fuel, hf⟩ := h
  obtain ⟨A', l, cap', e, hr, hl, hq⟩ := row_open (T := MAct) Tryz.underlying122 (by kernel_rfl : Tryz.prog.cellsOf 69 = 7) (by omega) mactC (fun _ => rfl) (MOk W.heap.size W) (fun n cs z hz h => act_open h hz) (y := (d, p)) (by simpa [Value.cells] using hf) hp
  exact ⟨A', l, cap', e, ⟨hr, hq⟩, hl⟩
set_option maxRecDepth 100000 in
theorem crash_open {H : Type} {enc : TypeId × Value → H} {W : World} {base : Nat} {v : Value} {d : DataW H} {p : List MemPlace}
    (hv : Value.okWide Tryz.prog W .any base 34 v) (h : DataW.Trod enc Tryz.prog W 0 (fun _ => true) true 34 v d p) (hp : ∀ x ∈ p, x.block < W.heap.size) :
    ∃ c KA kc PA pc, v = craV c KA kc PA pc ∧ CraR W.heap.size W c KA PA := by
  obtain ⟨cs, rfl, hsz⟩ := okWide_struct Tryz.underlying34 hv
  obtain ⟨fuel, hf⟩ := h
  obtain ⟨c, KA, kc, PA, pc, e, hr, _, _⟩ := cra_open (y := (d, p)) (by simpa [Value.cells] using hf) hp
  refine ⟨c, KA, kc, PA, pc, ?_, hr⟩
  unfold craV
  have : cs = #[.int .i64 c.names, .slice KA c.keep.length kc, .slice PA c.spoil.length pc] := by
    rw [← Array.toList_inj]
    simpa [Value.cells] using e
  rw [this]
end Go.Proofs.YtdbpfemkjfogoaaGreatDoor
namespace Go.Proofs.YtdbpfemkjfogoaaGreatDoor
open Go.RowKit Go.Lib Go.Sort
set_option linter.unusedVariables false
set_option linter.unusedSimpArgs false
set_option maxRecDepth 100000
theorem star_es : "*" ++ "errors.errorString" = "*errors.errorString" := by decide
theorem row_es (u : TypeId) (h : Tryz.prog.typeName? 3 u = some "*errors.errorString") : u = 284 :=
  typeName_ptr_named (nm := "errors.errorString") (by rw [star_es]; kernel_rfl) (by kernel_rfl) (by decide) u (by rw [star_es]; exact h)
theorem ty_syn : (Tryz.prog.globals[2]?).map (·.type) = some 171 := by kernel_rfl
theorem ty_ran : (Tryz.prog.globals[3]?).map (·.type) = some 171 := by kernel_rfl
theorem ty_tab : (Tryz.prog.globals[0]?).map (·.type) = some 269 := by kernel_rfl
theorem g_db : Tryz.prog.globalNamed "math/bits.deBruijn64tab" = some 6 := by kernel_rfl
theorem var_lt {P : Program} {g : Nat} {w : World} {n : String} {cs : Array Value} (hg : P.globalNamed n = some g) (h : w.var? P n = some cs) : g < w.heap.size := by
  unfold World.var? at h
  simp only [hg, Option.bind_some] at h
  rcases Nat.lt_or_ge g w.heap.size with h' | h'
  · exact h'
  · rw [Array.getElem?_eq_none h'] at h; simp at h
theorem laid5_of {w : World} (hL1 : laidMet Tryz.prog [("math/bits.deBruijn32tab", Rows.laid_math_bits_deBruijn32tab), ("math/bits.deBruijn64tab", Rows.laid_math_bits_deBruijn64tab), ("internal/strconv.uint64pow10", Rows.laid_internal_strconv_uint64pow10), ("strconv.ErrRange", Rows.laid_strconv_ErrRange), ("strconv.ErrSyntax", Rows.laid_strconv_ErrSyntax)] w) : Laid5 w ∧ 6 < w.heap.size := by
  have h2 := hL1.tail
  have h3 := h2.tail
  have h4 := h3.tail
  have h5 := h4.tail
  obtain ⟨a0, s0, hv0, -, -, -⟩ := laid_sentinel h5 g_syn ty_syn Tryz.underlying171 row_es Tryz.underlying284 Tryz.underlying286 rfl rfl Tryz.underlying9 (by kernel_rfl) (by kernel_rfl)
  obtain ⟨a1, s1, hv1, -, -, -⟩ := laid_sentinel h4 g_ran ty_ran Tryz.underlying171 row_es Tryz.underlying284 Tryz.underlying286 rfl rfl Tryz.underlying9 (by kernel_rfl) (by kernel_rfl)
  have htab : TabIs Tryz.prog w "internal/strconv.uint64pow10" .u64 pow10Tab := tabIs_of_head g_tab ty_tab Tryz.underlying269 Tryz.underlying42 (by kernel_rfl) (by kernel_rfl) h3
  refine ⟨⟨htab, ⟨_, _, hv0⟩, ⟨_, _, hv1⟩⟩, ?_⟩
  obtain ⟨ps, ⟨g', t', cs, fuel, p, q, hg', ht', hvar, _⟩, _⟩ := h2
  exact var_lt g_db hvar
end Go.Proofs.YtdbpfemkjfogoaaGreatDoor
namespace Go.Proofs.YtdbpfemkjfogoaaGreatDoor
open Go
set_option linter.unusedVariables false
theorem rih_and_shaped {H : Type} {enc : TypeId × Value → H} {a : Assume} {C : Checked} {os : Os} {f : FuncId} {fn : Func} {s : ChangeSpec} {conds : List PathCond} {apart fresh handsOn again : Bool} {X : World → Array Value → Prop}
    (hX : ∀ (w w' : World) (args : Array Value), w.heap = w'.heap → X w args → X w' args)
    (own : ownKnob C.prog.godebug = none) (started : os.Started) (noInit : C.prog.inits.idxOf? f = none) (hfn : C.prog.funcs[f]? = some fn)
    (witness : ∃ (w : World) (tape : Tape) (i : Input), w.os = os ∧ (w.forCall tape i).Shaped C.prog ∧ i.vars = [] ∧ Input.okWide C.prog (w.forCall tape i) .any w.heap.size f i ∧
      ((s.pre enc C.prog fn conds apart (w.forCall tape i).memory i.args ∧ X (w.forCall tape i).memory i.args) ∧ sizedMet enc C.prog fn (OpenSpec.ofChange s) apart (w.forCall tape i).memory i.args) ∧ a.holds C.prog (lone (Frame.enter C.prog f i.args .normal) [] (w.forCall tape i)))
    (contract : ∀ (W : World) (base : Nat) (args : Array Value) (ds gs : List (DataW H)) (before : List MemPlace),
      (∀ (j : Nat) t v, fn.params[j]? = some t → args[j]? = some v → Value.okWide C.prog W .any base t v) →
      DataW.Whole enc C.prog fn.params.toList s.vars apart W args.toList ds gs before →
      conds.all (PathCond.test C.prog ⟨fn.params.toList, ds, s.plain.varTypes C.prog, gs⟩) = true →
      (DataW.weightsEach C.prog (fn.params.toList ++ s.plain.varTypes C.prog) (ds ++ gs)).all (· ≤ reachBytes) = true → X W args →
      W.ShapedOpen C.prog →
      a.holds C.prog (lone (Frame.enter C.prog f args .normal) [] W) →
      Calls C.prog f args W fun e W' => ∃ v, e = .returned v ∧ s.post enc C.prog fn apart fresh handsOn again W args v W') :
    ReturnsInHanded a C os f .any (fun w args => (s.pre enc C.prog fn conds apart w args ∧ X w args) ∧ sizedMet enc C.prog fn (OpenSpec.ofChange s) apart w args) (s.post enc C.prog fn apart fresh handsOn again) := by
  refine returnsInHanded_of_calls own started noInit witness ?_
  intro w tape i _ hsh _ hok hpre hholds
  obtain ⟨_, _, _, fn', hfn', _, _, _, _, hval⟩ := hok
  obtain rfl : fn' = fn := Option.some.inj (hfn'.symm.trans hfn)
  obtain ⟨⟨⟨ds, gs, before, hw, hc⟩, hx⟩, hz⟩ := hpre
  refine (contract (w.forCall tape i) w.heap.size i.args ds gs before hval (DataW.Whole.of_heap (w' := w.forCall tape i) (by rfl) hw) hc (hz.weights hw) (hX _ _ _ (by rfl) hx) hsh hholds).mono fun e W' ⟨v, he, hp⟩ => ?_
  subst he
  exact ChangeSpec.post_blind hp
end Go.Proofs.YtdbpfemkjfogoaaGreatDoor
namespace Go.Proofs.YtdbpfemkjfogoaaGreatDoor
open Go.ChangeShapes Go.WideShapes Go.ChangeAt Go.RowKit Go.Joins Go.Deep
open Go.ChangeMaps (open_string)
set_option linter.unusedVariables false
set_option linter.unusedSimpArgs false
theorem crcT_lits : (List.range 16).map (fun i => (DataW.lit (.int .u32 (crcT i : Nat)) : DataW Unit)) = match (Rows.laid_copyhold_cell_table : DataW Unit) with
  | .agg l => l
  | _ => [] := rfl
set_option maxRecDepth 100000 in
theorem glo_of {W : World} (h : laidMetH Tryz.prog Rows.walLastsRow.laid W) : Glo W := by
  rw [MakeChecks.laidMetH_plain _ _ _ (by kernel_rfl)] at h
  have hL1 : laidMet Tryz.prog [("copyhold/cell.table", Rows.laid_copyhold_cell_table), ("math/bits.deBruijn32tab", Rows.laid_math_bits_deBruijn32tab), ("math/bits.deBruijn64tab", Rows.laid_math_bits_deBruijn64tab), ("internal/strconv.uint64pow10", Rows.laid_internal_strconv_uint64pow10), ("strconv.ErrRange", Rows.laid_strconv_ErrRange), ("strconv.ErrSyntax", Rows.laid_strconv_ErrSyntax)] W := h
  obtain ⟨h5, h6⟩ := laid5_of hL1.tail
  have h3 := hL1.tail.tail
  refine ⟨?_, h5, h6⟩
  obtain ⟨ps, ⟨g, t, cs, fuel, p, q, hg, ht, hv, hd, _, _⟩, _, _⟩ := h
  obtain rfl := Option.some.inj ((show Tryz.prog.globalNamed "copyhold/cell.table" = some 1 by kernel_rfl).symm.trans hg)
  obtain rfl := Option.some.inj ((show (Tryz.prog.globals[1]?).map (·.type) = some 273 by kernel_rfl).symm.trans ht)
  obtain ⟨xs, m, _, ex, _, hl, hel⟩ := DataW.trod_array Tryz.underlying273 hd
  intro r hr
  have c5 : Tryz.prog.cellsOf 152 = 1 := by kernel_rfl
  have hE := hel r hr
  rw [c5, Nat.mul_one, List.getElem?_eq_getElem (by omega)] at hE
  obtain ⟨z, e1, e2, _⟩ := DataW.trod_int Tryz.underlying152 hE
  have e3 : (xs.map (·.1)) = (List.range 16).map (fun i => (DataW.lit (.int .u32 (crcT i : Nat)) : DataW Unit)) := (DataW.agg.inj (Prod.mk.inj ex).1).symm.trans crcT_lits.symm
  have e4 : (xs.map (·.1))[r]? = ((List.range 16).map (fun i => (DataW.lit (.int .u32 (crcT i : Nat)) : DataW Unit)))[r]? := by rw [e3]
  rw [List.getElem?_map, List.getElem?_map, List.getElem?_eq_getElem (by omega : r < xs.length), List.getElem?_range hr, e2] at e4
  have hz : z = (crcT r : Nat) := by simpa using e4
  rw [World.var?_cell hg hv r, ← hz]
  have : cs.toList[r]? = some (.int .u32 z) := by
    have h0 : ((cs.toList.drop r).take 1)[0]? = some (.int .u32 z) := by rw [e1]; rfl
    simpa using h0
  simpa using this
theorem k_bool : Tryz.prog.cellsOf 4 = 1 := by kernel_rfl
theorem k_u64 : Tryz.prog.cellsOf 42 = 1 := by kernel_rfl
theorem k_ops : Tryz.prog.cellsOf 51 = 1 := by kernel_rfl
theorem k_bats : Tryz.prog.cellsOf 27 = 1 := by kernel_rfl
theorem k_bools : Tryz.prog.cellsOf 30 = 1 := by kernel_rfl
section
variable {H : Type} {enc : TypeId × Value → H} {W : World}
set_option maxRecDepth 100000 in
theorem op_open {n : Nat} {cs : List Value} {y : DataW H × List MemPlace} (h : DataW.trod enc Tryz.prog W 0 (fun _ => true) true n 60 cs = some y) : ∃ o : OpE, cs = opL o := by
  obtain ⟨y0, y1, y2, n', hx, hl, h0, h1, h2⟩ := trod_struct3 Tryz.underlying60 h
  rw [(by kernel_rfl : Tryz.prog.cellsOf 60 = 3)] at hl
  match cs, hl with
  | [c0, c1, c2], _ =>
    replace h0 : DataW.trod enc Tryz.prog W 0 (fun _ => true) true n' 9 [c0] = some y0 := by
      have h := h0
      try dsimp only at h
      rw [k9] at h
      exact h
    replace h1 : DataW.trod enc Tryz.prog W 0 (fun _ => true) true n' 9 [c1] = some y1 := by
      have h := h1
      try dsimp only at h
      rw [k9] at h
      exact h
    replace h2 : DataW.trod enc Tryz.prog W 0 (fun _ => true) true n' 4 [c2] = some y2 := by
      have h := h2
      try dsimp only at h
      rw [k_bool] at h
      exact h
    obtain ⟨x0, e0, _, w0⟩ := DataW.trod_string Tryz.underlying9 h0
    obtain ⟨x1, e1, _, w1⟩ := DataW.trod_string Tryz.underlying9 h1
    obtain ⟨x2, e2, _⟩ := DataW.trod_bool Tryz.underlying4 h2
    simp at e0 e1 e2
    subst e0 e1 e2
    exact ⟨⟨x0.data.toList, x1.data.toList, x2⟩, by simp only [opL, bs_of]⟩
set_option maxRecDepth 100000 in
theorem ops_open {n : Nat} {v : Value} {y : DataW H × List MemPlace} (h : DataW.trod enc Tryz.prog W 0 (fun _ => true) true n 51 [v] = some y) (hp : ∀ x ∈ y.2, x.block < W.heap.size) :
    ∃ (A : Option Addr) (l : List OpE) (cap : Nat), v = .slice A l.length cap ∧ OpsR W W.heap.size A l := by
  obtain ⟨A, l, cap, e1, e2, _, _⟩ := row_open (T := OpE) Tryz.underlying51 (by kernel_rfl : Tryz.prog.cellsOf 60 = 3) (by omega) opL opL_len (fun _ => True) (fun n cs z _ hz => by
    obtain ⟨o, e⟩ := op_open hz
    exact ⟨o, e, trivial⟩) h hp
  exact ⟨A, l, cap, e1, e2⟩
set_option maxRecDepth 100000 in
theorem bat_open {n : Nat} {cs : List Value} {y : DataW H × List MemPlace} (h : DataW.trod enc Tryz.prog W 0 (fun _ => true) true n 53 cs = some y) (hp : ∀ x ∈ y.2, x.block < W.heap.size) :
    ∃ x : MB, cs = mbC x ∧ ArgM W.heap.size W x := by
  obtain ⟨y0, y1, n', hx, hl, h0, h1⟩ := trod_struct2 Tryz.underlying53 h
  rw [(by kernel_rfl : Tryz.prog.cellsOf 53 = 2)] at hl
  match cs, hl with
  | [c0, c1], _ =>
    replace h0 : DataW.trod enc Tryz.prog W 0 (fun _ => true) true n' 42 [c0] = some y0 := by
      have h := h0
      try dsimp only at h
      rw [k_u64] at h
      exact h
    replace h1 : DataW.trod enc Tryz.prog W 0 (fun _ => true) true n' 51 [c1] = some y1 := by
      have h := h1
      try dsimp only at h
      rw [k_ops] at h
      exact h
    obtain ⟨x0, e0, _, w0⟩ := DataW.trod_int Tryz.underlying42 h0
    simp at e0
    subst e0
    have b0 := bounds_u64 w0
    rw [hx] at hp
    obtain ⟨A, l, cap, rfl, hr⟩ := ops_open h1 (fun x hx => hp x (by simp; exact .inr hx))
    refine ⟨⟨⟨x0.toNat, l⟩, .slice A l.length cap⟩, ?_, ⟨⟨A, cap, rfl, hr⟩, by simp only []; omega⟩⟩
    simp only [mbC]
    rw [show ((x0.toNat : Nat) : Int) = x0 from by omega]
theorem boolV_flat2 (l : List Bool) : l.flatMap (fun b => [Value.bool b]) = boolV l := (boolV_flat l).symm
set_option maxRecDepth 100000 in
theorem bools_open {n : Nat} {v : Value} {y : DataW H × List MemPlace} (h : DataW.trod enc Tryz.prog W 0 (fun _ => true) true n 30 [v] = some y) (hp : ∀ x ∈ y.2, x.block < W.heap.size) :
    ∃ (A : Option Addr) (l : List Bool) (cap : Nat), v = .slice A l.length cap ∧ Reads W W.heap.size 1 A l.length (boolV l) := by
  obtain ⟨A, l, cap, e1, e2, _, _⟩ := row_open (T := Bool) Tryz.underlying30 (by kernel_rfl : Tryz.prog.cellsOf 4 = 1) (by omega) (fun b => [.bool b]) (fun _ => rfl) (fun _ => True) (fun n cs z _ hz => by
    obtain ⟨x, e, _⟩ := DataW.trod_bool Tryz.underlying4 hz
    exact ⟨x, e, trivial⟩) h hp
  exact ⟨A, l, cap, e1, by rw [← boolV_flat2]; exact e2⟩
set_option maxRecDepth 100000 in
theorem round_open {n : Nat} {cs : List Value} {y : DataW H × List MemPlace} (h : DataW.trod enc Tryz.prog W 0 (fun _ => true) true n 36 cs = some y) (hp : ∀ x ∈ y.2, x.block < W.heap.size) :
    ∃ r : RM, cs = rmC r ∧ RmOk W.heap.size W r := by
  obtain ⟨xs, n', _, hx, hl, hlen, hf⟩ := DataW.trod_struct Tryz.underlying36 h
  rw [(by kernel_rfl : Tryz.prog.cellsOf 36 = 6)] at hl
  match cs, hl with
  | [c0, c1, c2, c3, c4, c5], _ =>
    have h0 := hf 0 _ rfl
    have h1 := hf 1 _ rfl
    have h2 := hf 2 _ rfl
    have h3 := hf 3 _ rfl
    match xs, hlen with
    | [z0, z1, z2, z3], _ =>
      replace h0 : DataW.trod enc Tryz.prog W 0 (fun _ => true) true n' 27 [c0] = some z0 := by
        have h : DataW.trod enc Tryz.prog W 0 (fun _ => true) true n' 27 ((List.drop 0 [c0, c1, c2, c3, c4, c5]).take (Tryz.prog.cellsOf 27)) = some z0 := h0
        rw [k_bats] at h
        exact h
      replace h1 : DataW.trod enc Tryz.prog W 0 (fun _ => true) true n' 30 [c1] = some z1 := by
        have h : DataW.trod enc Tryz.prog W 0 (fun _ => true) true n' 30 ((List.drop 1 [c0, c1, c2, c3, c4, c5]).take (Tryz.prog.cellsOf 30)) = some z1 := h1
        rw [k_bools] at h
        exact h
      replace h2 : DataW.trod enc Tryz.prog W 0 (fun _ => true) true n' 3 [c2] = some z2 := by
        have h : DataW.trod enc Tryz.prog W 0 (fun _ => true) true n' 3 ((List.drop 2 [c0, c1, c2, c3, c4, c5]).take (Tryz.prog.cellsOf 3)) = some z2 := h2
        rw [k3] at h
        exact h
      replace h3 : DataW.trod enc Tryz.prog W 0 (fun _ => true) true n' 34 [c3, c4, c5] = some z3 := by
        have h : DataW.trod enc Tryz.prog W 0 (fun _ => true) true n' 34 ((List.drop 3 [c0, c1, c2, c3, c4, c5]).take (Tryz.prog.cellsOf 34)) = some z3 := h3
        rw [k26] at h
        exact h
      rw [hx] at hp
      obtain ⟨BA, bl, bc, rfl, r0, _, q0⟩ := row_open (T := MB) Tryz.underlying27 (by kernel_rfl : Tryz.prog.cellsOf 53 = 2) (by omega) mbC mbC_len (ArgM W.heap.size W) (fun n cs z hz h => bat_open h hz) h0 (fun x hx => hp x (by simp; exact .inl hx))
      obtain ⟨NA, nl, nc, rfl, r1⟩ := bools_open h1 (fun x hx => hp x (by simp; exact .inr (.inl hx)))
      obtain ⟨x2, e2, _, w2⟩ := DataW.trod_int Tryz.underlying3 h2
      simp at e2
      subst e2
      have b2 := bounds_i64 w2
      obtain ⟨c, KA, kc, PA, pc, e4, hr, l1, l2⟩ := cra_open h3 (fun x hx => hp x (by simp; exact .inr (.inr (.inr hx))))
      simp at e4
      obtain ⟨rfl, rfl, rfl⟩ := e4
      exact ⟨⟨bl, BA, bc, nl, NA, nc, x2, c, KA, kc, PA, pc⟩, rfl, ⟨r0, q0, r1, hr, ⟨b2.2, b2.1⟩⟩⟩
end
set_option maxRecDepth 100000 in
theorem rounds_open {H : Type} {enc : TypeId × Value → H} {W : World} {base : Nat} {v : Value} {d : DataW H} {p : List MemPlace}
    (hv : Value.okWide Tryz.prog W .any base 22 v) (h : DataW.Trod enc Tryz.prog W 0 (fun _ => true) true 22 v d p) (hp : ∀ x ∈ p, x.block < W.heap.size) :
    ∃ A l cap, v = .slice A l.length cap ∧ RmsAt W.heap.size W A l := by
  obtain ⟨A, n, cap, rfl⟩ := okWide_slice Tryz.underlying22 hv
  obtain ⟨fuel, hf⟩ := h
  obtain ⟨A', l, cap', e, hr, hl, hq⟩ := row_open (T := RM) Tryz.underlying22 (by kernel_rfl : Tryz.prog.cellsOf 36 = 6) (by omega) rmC rmC_len (RmOk W.heap.size W) (fun n cs z hz h => round_open h hz) (y := (d, p)) (by simpa [Value.cells] using hf) hp
  exact ⟨A', l, cap', e, ⟨hr, hq⟩⟩
end Go.Proofs.YtdbpfemkjfogoaaGreatDoor
