/- Contracts of the law: Given, given. Contracts of the document's Same, and the law's. -/
import Derived.Test.YtdbpfemkjfogoaaGreatDoorW11J
import Derived.Laws.StructEq
namespace Go.Proofs.YtdbpfemkjfogoaaGreatDoor
open Go.RowKit
set_option linter.unusedVariables false
set_option linter.unusedSimpArgs false
set_option maxRecDepth 100000 in
set_option maxHeartbeats 1000000 in
theorem Given_any (seq n cap : Nat) (A : Option Addr) (w : World) :
    Calls Tryz.prog 35 #[.agg #[.int .u64 (seq : Nat), .slice A n cap]] w fun e w' => e = .returned (.agg #[.int .u64 (seq : Nat), .slice A n cap]) ∧ Below w.heap.size w w' := by
  have hfin := Lib.hid (Blk.new (w.alloc (.cells #[.int .u64 (seq : Nat), .slice A n cap] 53)) 81 #[.int .u64 (seq : Nat), .slice A n cap])
  go_enter Tryz.func35, Tryz.ntmps35
  go_wp2_with fail
  refine bodyPost_ret (v := .agg #[.int .u64 (seq : Nat), .slice A n cap]) (results_cell_row rfl _ _ (w.heap.size + 1) 81 #[.int .u64 (seq : Nat), .slice A n cap] (0, 0) _ rfl (by show Blk _ (w.heap.size + 1) _ _; simpa using hfin.out) Tryz.underlying81 rfl (by kernel_rfl)) rfl ⟨rfl, ((Below.refl _ _).alloc (Nat.le_refl _) _).alloc (by simp) _⟩
theorem rbat_info : (Tryz.prog.info? 81).map (fun i => (i.zero, i.size, i.bytes)) = some (some (.agg #[.int .u64 0, .slice none 0 0]), 2, 32) := by kernel_rfl
/-- Behind the append of a batch az the document's. -/
theorem giv_arm {w W w6 : World} {B : Nat} {ov v2 : Value} {l : List MB} {x : MB} {o : Obj} (hb : Below w.heap.size w W) (hB : w.heap.size ≤ B) (ho : W.ownsRow B 81 2 ov l.length (mbV l)) (ho6 : w6.ownsRow B 81 2 v2 (l.length + 1) (mbV l ++ mbC x)) (hg6 : (W.alloc o).grownBy w6 ov.ownBlock) :
    ∃ A2 c2, v2 = .slice A2 (l.length + 1) c2 ∧ Hid (Below w.heap.size w w6 ∧ w6.ownsRow B 81 2 (.slice A2 (l.length + 1) c2) (l ++ [x]).length (mbV (l ++ [x]))) := by
  have hb6 : Below w.heap.size w w6 := by
    have h1 := hb.alloc hb.size o
    exact h1.grown hg6 h1.size (fun k e => by have := (own_lt ho k e).1; omega)
  obtain ⟨A, c, e⟩ : ∃ A c, v2 = .slice A (l.length + 1) c := by
    rcases ho6.2 with ⟨rfl, e⟩ | ⟨g, cap, cur, rfl, _⟩
    · simp at e
    · exact ⟨_, cap, rfl⟩
  subst e
  refine ⟨A, c, rfl, Lib.hid ⟨hb6, ?_⟩⟩
  unfold mbV
  rw [List.length_append, List.flatMap_append]
  simpa [mbV] using ho6
set_option maxRecDepth 100000 in
set_option maxHeartbeats 2000000 in
theorem given_any {w : World} {N : Nat} {A : Option Addr} {c : Nat} {l : List MB} (hr : Reads w N 2 A l.length (mbV l)) (hN : N ≤ w.heap.size) (hx : ∀ x ∈ l, ∃ A cap, x.v = .slice A x.b.ops.length cap) (hl : l.length ≤ 100000) :
    Calls Tryz.prog 17 #[.slice A l.length c] w fun e w' => ∃ A2 c2, e = .returned (.slice A2 l.length c2) ∧ w'.ownsRow w.heap.size 81 2 (.slice A2 l.length c2) l.length (mbV l) ∧ Below w.heap.size w w' := by
  obtain ⟨i0, hi0, hz0, hz1, hz2⟩ := info_parts rbat_info
  replace hr := Lib.hid hr
  go_enter Tryz.func17, Tryz.ntmps17
  go_wp2_with fail
  go_loopw [3, 4] (fun ov iv wr => ∃ (i : Nat) (a : Option Addr) (k : Nat), i ≤ l.length ∧ iv = .int .i64 (i : Nat) ∧ ov = .slice a i k ∧ Below w.heap.size w wr ∧ wr.ownsRow w.heap.size 81 2 (.slice a i k) (l.take i).length (mbV (l.take i))) (fun _ iv _ => l.length - (intOf iv).toNat)
  case atStart => exact ⟨0, none, 0, Nat.zero_le _, rfl, rfl, Below.refl _ _, World.ownsRow_nil _ _ _ _⟩
  case round =>
    obtain ⟨i, a, k, hi, rfl, rfl, hb, hrow⟩ := hrel
    by_cases hlt : i < l.length
    · have hlt' : (i : Int) < l.length := by omega
      have hxi := List.getElem?_eq_getElem hlt
      have htk : l.take (i + 1) = l.take i ++ [l[i]] := by simp
      have htl : (l.take i).length = i := by rw [List.length_take]; omega
      obtain ⟨xA, xc, hxv⟩ := hx _ (List.getElem_mem hlt)
      obtain ⟨bb, oo, hAe, hbb, hcell⟩ := row_at mbC_len (by decide) (hr.out.below (hb.mono hN)) hxi
      generalize l[i] = x at *
      have q0 : wr.cell? ⟨bb, oo + i * 2, none⟩ = some (.int .u64 (x.b.seq : Nat)) := hcell 0 _ rfl
      have q1 : wr.cell? ⟨bb, oo + i * 2 + 1, none⟩ = some x.v := hcell 1 _ rfl
      rw [hxv] at q1
      rw [hAe]
      have hbl : bb < wr.heap.size := by have := hb.size; omega
      have hgv := Lib.hid (Given_any x.b.seq x.b.ops.length xc xA wr)
      have hws := hb.size
      replace hAe := Lib.hid hAe
      replace hxi := Lib.hid hxi
      replace htk := Lib.hid htk
      replace hrow := Lib.hid hrow
      replace hb := Lib.hid hb
      clear hcell
      go_wp2_with fail
      refine hgv.out.mono ?_
      rintro e w5 ⟨rfl, hb5⟩
      have hbw : Below w.heap.size w w5 := hb.out.trans (hb5.mono hws)
      have hrow5 := own_below2 (own_below2 hrow.out hb5) ((Below.refl w5.heap.size w5).alloc (Nat.le_refl _) (.cells #[.int .u64 (x.b.seq : Nat), .slice xA x.b.ops.length xc] 81))
      have hrow5' := own_below2 hrow.out hb5
      have hrd := new_bat w5 81 x
      rw [hxv] at hrd
      have hz5 := hbw.size
      replace hbw := Lib.hid hbw
      clear hb5 q0 q1
      go_wp2_with (at_builtin; refine wpList_append_any _ rfl (.tmp 11) (.tmp 17) _ rfl w.heap.size 81 i0 _ 2 32 Tryz.underlying44 hi0 hz0 hz1 hz2 rfl (by omega) _ (l.take i).length (mbV (l.take i)) rfl hrow5 (w5.heap.size + 1) (some ⟨w5.heap.size, 0, none⟩) 1 1 (mbC x) rfl ?c0 ?c1 ?c2 ?c3 ?c4 ?_; rotate_left 5; intro v2 w6 ho6 hg6 hat6; obtain ⟨A2, c2, rfl, hall⟩ := giv_arm hbw.out (Nat.le_refl _) hrow5' ho6 hg6; clear ho6 hg6 hat6)
      case c0 => exact hrd
      case c1 => intro u hu; simp [mbC] at hu; rcases hu with rfl | rfl; rfl; rw [hxv]; rfl
      case c2 => simp only [maxLen]; omega
      case c3 => omega
      case c4 => simp; omega
      obtain ⟨hb6, hrow6⟩ := hall.out
      rw [htl] at *
      refine ⟨⟨i + 1, A2, c2, by omega, by go_num, rfl, hb6, ?_⟩, by simp [intOf]; omega⟩
      rw [htk.out]
      exact hrow6
    · obtain rfl : i = l.length := by omega
      have htk : l.take l.length = l := List.take_length
      rw [htk] at hrow
      replace hrow := Lib.hid hrow
      replace hb := Lib.hid hb
      clear htk
      go_wp2_with fail
      go_ret
      exact ⟨a, k, rfl, hrow.out, hb.out⟩
set_option maxRecDepth 100000 in
set_option maxHeartbeats 2000000 in
theorem rSame_any {w : World} {N seq ca cb : Nat} {A B : Option Addr} {ops : List OpE} (hA : OpsR w N A ops) (hB : OpsR w N B ops) (hN : N ≤ w.heap.size) (hl : ops.length ≤ 1073741824) :
    Calls Tryz.prog 49 #[.agg #[.int .u64 (seq : Nat), .slice A ops.length ca], .agg #[.int .u64 (seq : Nat), .slice B ops.length cb]] w fun e w' => e = .returned (.bool true) ∧ Below w.heap.size w w' := by
  have hb0 : Below w.heap.size w ((w.alloc (.cells #[.int .u64 (seq : Nat), .slice A ops.length ca] 81)).alloc (.cells #[.int .u64 (seq : Nat), .slice B ops.length cb] 81)) := ((Below.refl _ _).alloc (Nat.le_refl _) _).alloc (by simp) _
  have g0 := Lib.hid ((Blk.new w 81 #[.int .u64 (seq : Nat), .slice A ops.length ca]).alloc (.cells #[.int .u64 (seq : Nat), .slice B ops.length cb] 81))
  have g1 := Lib.hid (Blk.new (w.alloc (.cells #[.int .u64 (seq : Nat), .slice A ops.length ca] 81)) 81 #[.int .u64 (seq : Nat), .slice B ops.length cb])
  replace hb0 := Lib.hid hb0
  go_enter Tryz.func49, Tryz.ntmps49
  go_wp2_with fail
  go_loopw [5] (fun iv wr => ∃ (i : Nat), i ≤ ops.length ∧ iv = .int .i64 (i : Nat) ∧ Below w.heap.size w wr ∧ Blk wr w.heap.size 81 #[.int .u64 (seq : Nat), .slice A ops.length ca] ∧ Blk wr (w.heap.size + 1) 81 #[.int .u64 (seq : Nat), .slice B ops.length cb]) (fun iv _ => ops.length - (intOf iv).toNat)
  case atStart => exact ⟨0, Nat.zero_le _, rfl, hb0.out, g0.out, by simpa using g1.out⟩
  case round =>
    obtain ⟨i, hi, rfl, hbr, k0, k1⟩ := hrel
    have z0 : wr.cell? ⟨w.heap.size, 1, none⟩ = some (.slice A ops.length ca) := k0.cell 1
    have z1 : wr.cell? ⟨w.heap.size + 1, 1, none⟩ = some (.slice B ops.length cb) := k1.cell 1
    have l0 := k0.lt
    have l1 := k1.lt
    replace k0 := Lib.hid k0
    replace k1 := Lib.hid k1
    by_cases hlt : i < ops.length
    · have hlt' : (i : Int) < ops.length := by omega
      have hwz := hbr.size
      have hxi := List.getElem?_eq_getElem hlt
      obtain ⟨ba, pa, hae, hba, a0, a1, a2⟩ := OpsR.at_ (hA.below hbr hN) hxi
      obtain ⟨bc, pc, hbe, hbc, c0, c1, c2⟩ := OpsR.at_ (hB.below hbr hN) hxi
      rw [hae] at z0
      rw [hbe] at z1
      have hbal : ba < wr.heap.size := by omega
      have hbcl : bc < wr.heap.size := by omega
      generalize bs ops[i].key = KK at *
      generalize bs ops[i].value = VV at *
      generalize ops[i].gone = GG at *
      replace hae := Lib.hid hae
      replace hbe := Lib.hid hbe
      replace hxi := Lib.hid hxi
      replace hbr := Lib.hid hbr
      go_wp2_with fail
      have hxc := @Ext.cell
      refine wp_region_ext (by kernel_rfl) (by kernel_rfl) ?_
      repeat (go_big_quiet_step ((first | fail)))
      refine wpQuiet_nil ?_
      clear hxc
      intro wx hwx
      obtain ⟨x, hx⟩ := hwx
      have hb := x.below
      rw [← hx] at hb
      clear hx x
      have hbx : Below w.heap.size w wx := hbr.out.trans (hb.mono hwz)
      have kx0 := k0.out.below hb k0.out.lt
      have kx1 := k1.out.below hb k1.out.lt
      replace hbx := Lib.hid hbx
      replace kx0 := Lib.hid kx0
      replace kx1 := Lib.hid kx1
      clear hb
      go_wp2_with fail
      exact ⟨⟨i + 1, by omega, by go_num, hbx.out, kx0.out, kx1.out⟩, by simp [intOf]; omega⟩
    · have hlt' : ¬ (i : Int) < ops.length := by omega
      replace hbr := Lib.hid hbr
      go_wp2_with fail
      go_ret
      exact ⟨rfl, hbr.out⟩
/-- A batch that may be read. -/
def ReadM (w : World) (N : Nat) (x : MB) : Prop := ∃ A cap, x.v = .slice A x.b.ops.length cap ∧ OpsR w N A x.b.ops
theorem ReadM.below {N C : Nat} {w w' : World} {x : MB} (h : ReadM w N x) (hb : Below C w w') (hC : N ≤ C) : ReadM w' N x := by
  obtain ⟨A, cap, e, hr⟩ := h
  exact ⟨A, cap, e, hr.below hb hC⟩
set_option maxRecDepth 100000 in
set_option maxHeartbeats 2000000 in
theorem BSame_any {w : World} {N n ca cb : Nat} {A B : Option Addr} {l k : List MB} (hA : Reads w N 2 A n (mbV l)) (hB : Reads w N 2 B n (mbV k)) (hN : N ≤ w.heap.size) (hl : l.length = n) (hk : k.length = n) (hn : n ≤ 1000000)
    (rl : ∀ x ∈ l, ReadM w N x) (rk : ∀ x ∈ k, ReadM w N x) (he : l.map (·.b) = k.map (·.b)) (ho : ∀ x ∈ l, x.b.ops.length ≤ 1073741824) :
    Calls Tryz.prog 16 #[.slice A n ca, .slice B n cb] w fun e w' => e = .returned (.bool true) ∧ Below w.heap.size w w' := by
  subst hl
  replace hA := Lib.hid hA
  replace hB := Lib.hid hB
  replace rl := Lib.hid rl
  replace rk := Lib.hid rk
  replace he := Lib.hid he
  replace ho := Lib.hid ho
  go_enter Tryz.func16, Tryz.ntmps16
  go_wp2_with fail
  go_loopw [5] (fun iv wr => ∃ (i : Nat), i ≤ l.length ∧ iv = .int .i64 (i : Nat) ∧ Below w.heap.size w wr) (fun iv _ => l.length - (intOf iv).toNat)
  case atStart => exact ⟨0, Nat.zero_le _, rfl, Below.refl _ _⟩
  case round =>
    obtain ⟨i, hi, rfl, hbr⟩ := hrel
    by_cases hlt : i < l.length
    · have hlt' : (i : Int) < l.length := by omega
      have hlk : i < k.length := by omega
      have hwz := hbr.size
      have hxi := List.getElem?_eq_getElem hlt
      have hyi := List.getElem?_eq_getElem hlk
      have hxr := rl.out _ (List.getElem_mem hlt)
      have hyr := rk.out _ (List.getElem_mem hlk)
      have hol := ho.out _ (List.getElem_mem hlt)
      have hxy : l[i].b = k[i].b := by
        have := congrArg (fun z => z[i]?) he.out
        simp only [List.getElem?_map, hxi, hyi, Option.map_some] at this
        exact Option.some.inj this
      generalize l[i] = x at *
      generalize k[i] = y at *
      obtain ⟨bx, px, hae, hbx, hcx⟩ := row_at mbC_len (by decide) (hA.out.below (hbr.mono hN)) hxi
      obtain ⟨byy, py, hbe, hby, hcy⟩ := row_at mbC_len (by decide) (hB.out.below (hbr.mono hN)) hyi
      have a0 : wr.cell? ⟨bx, px + i * 2, none⟩ = some (.int .u64 (x.b.seq : Nat)) := hcx 0 _ rfl
      have a1 : wr.cell? ⟨bx, px + i * 2 + 1, none⟩ = some x.v := hcx 1 _ rfl
      have c0 : wr.cell? ⟨byy, py + i * 2, none⟩ = some (.int .u64 (y.b.seq : Nat)) := hcy 0 _ rfl
      have c1 : wr.cell? ⟨byy, py + i * 2 + 1, none⟩ = some y.v := hcy 1 _ rfl
      obtain ⟨xA, xc, hxv, hxo⟩ := hxr
      obtain ⟨yA, yc, hyv, hyo⟩ := hyr
      rw [hxv] at a1
      rw [hyv] at c1
      rw [← hxy] at c0 c1 hyo
      rw [hae, hbe]
      have hbl : bx < wr.heap.size := by omega
      have hcl : byy < wr.heap.size := by omega
      replace hae := Lib.hid hae
      replace hbe := Lib.hid hbe
      replace hxi := Lib.hid hxi
      replace hyi := Lib.hid hyi
      replace hxv := Lib.hid hxv
      replace hyv := Lib.hid hyv
      replace hxy := Lib.hid hxy
      clear hcx hcy
      have hsame : ∀ wq : World, Below wr.heap.size wr wq → Calls Tryz.prog 49 #[.agg #[.int .u64 (x.b.seq : Nat), .slice xA x.b.ops.length xc], .agg #[.int .u64 (x.b.seq : Nat), .slice yA x.b.ops.length yc]] wq fun e w' => e = .returned (.bool true) ∧ Below wq.heap.size wq w' := fun wq hq => by
        have hq2 := hbr.trans (hq.mono hwz)
        exact rSame_any (hxo.below hq2 hN) (hyo.below hq2 hN) (by have := hq2.size; omega) hol
      replace hsame := Lib.hid hsame
      replace hbr := Lib.hid hbr
      go_wp2_with fail
      have hxc := @Ext.cell
      refine wp_region_ext (by kernel_rfl) (by kernel_rfl) ?_
      repeat (go_big_quiet_step ((first | (go_at_call 35; exact Calls.ext (Given_any x.b.seq x.b.ops.length xc xA _)) | (go_at_call 49; exact Calls.ext (hsame.out _ (Ext.below _))))))
      refine wpQuiet_nil ?_
      clear hxc
      intro wx hwx
      obtain ⟨x, hx⟩ := hwx
      have hb := x.below
      rw [← hx] at hb
      clear hx x
      have hbx2 : Below w.heap.size w wx := hbr.out.trans (hb.mono hwz)
      replace hbx2 := Lib.hid hbx2
      clear hb
      go_wp2_with fail
      exact ⟨⟨i + 1, by omega, by go_num, hbx2.out⟩, by simp [intOf]; omega⟩
    · have hlt' : ¬ (i : Int) < l.length := by omega
      replace hbr := Lib.hid hbr
      go_wp2_with fail
      go_ret
      exact ⟨rfl, hbr.out⟩
end Go.Proofs.YtdbpfemkjfogoaaGreatDoor
