/- OnceEach returns true. -/
import Derived.Test.YtbaobjkhdieapaaDoorEachT
import Derived.Test.YtbaobjkhdieapaaDoorLine
namespace Go.Proofs.YtbaobjkhdieapaaDoor
open Go.RowKit
set_option linter.unusedVariables false
set_option linter.unusedSimpArgs false

set_option maxRecDepth 100000 in
set_option maxHeartbeats 16000000 in
theorem each_walk (A : Option Addr) (l : List Act4) (cap : Nat) (w : World) (hr : Reads w w.heap.size 4 A l.length (actsV l)) (hlen : l.length ≤ 9223372036854775807) (hx : ∀ x ∈ l, InOk x) :
    Calls Tryd.prog 5 #[.slice A l.length cap] w fun e w' => e = .returned (.bool true) ∧ Below w.heap.size w w' := by
  obtain ⟨i0, hi0, hz0, hz1, hz2⟩ := info_parts op_info
  go_enter Tryd.func5, Tryd.ntmps5
  go_wp2_with fail
  refine (Great_any A l cap w hr hlen (fun x h => (hx x h).a)).mono ?_
  rintro e w0 ⟨g, rfl, hw, hg⟩
  replace hw := hw.symm
  subst hw
  cases g with
  | true =>
    go_wp2_with fail
    refine (awake_any _).mono ?_
    rintro e w1 ⟨rfl, hb1⟩
    go_wp2_with fail
    go_ret
    exact ⟨rfl, hb1⟩
  | false =>
    obtain ⟨hl120, hl8⟩ := hg rfl
    clear hg hlen
    go_wp2_with fail
    have hS0 : ShelfOwn (w.alloc (.cells #[.slice none 0 0, .int .i64 0] 30)) w.heap.size w.heap.size (.slice none 0 0) (evOps []) 0 := ShelfOwn.new w w.heap.size (Nat.le_refl _)
    have hA0 : ∀ (wz : World) (o : Obj), Below wz.heap.size wz (wz.alloc o) := fun wz o => (Below.refl _ _).alloc (Nat.le_refl _) o
    have hS1 := ((hS0.below (hA0 _ (.cells Tryd.zeroCells46 46))).below (hA0 _ (.cells Tryd.zeroCells47 47))).below (hA0 _ (.cells Tryd.zeroCells48 48))
    have hI1 := ((ArrAt.new (w := (w.alloc (.cells #[.slice none 0 0, .int .i64 0] 30))) (t := 46) zero46).below (hA0 _ (.cells Tryd.zeroCells47 47))).below (hA0 _ (.cells Tryd.zeroCells48 48))
    have hN1 := (ArrAt.new (w := ((w.alloc (.cells #[.slice none 0 0, .int .i64 0] 30)).alloc (.cells Tryd.zeroCells46 46))) (t := 47) zero47).below (hA0 _ (.cells Tryd.zeroCells48 48))
    have hT1 := ArrAt.new (w := (((w.alloc (.cells #[.slice none 0 0, .int .i64 0] 30)).alloc (.cells Tryd.zeroCells46 46)).alloc (.cells Tryd.zeroCells47 47))) (t := 48) zero48
    have hB1 : Below w.heap.size w ((((w.alloc (.cells #[.slice none 0 0, .int .i64 0] 30)).alloc (.cells Tryd.zeroCells46 46)).alloc (.cells Tryd.zeroCells47 47)).alloc (.cells Tryd.zeroCells48 48)) := (((hA0 w _).alloc (by simp) _).alloc (by simp; omega) _).alloc (by simp; omega) _
    go_loopw [7] (fun i wr => ∃ (k : Nat) (E : List Ev) (sv : Value) (q : Nat), k ≤ l.length ∧ i = .int .i64 k ∧ q ≤ 3 * k ∧ ShelfOwn wr w.heap.size w.heap.size sv (evOps E) q ∧ ArrAt wr (w.heap.size + 1) 46 (isV E) ∧ ArrAt wr (w.heap.size + 1 + 1) 47 (nV E) ∧ ArrAt wr (w.heap.size + 1 + 1 + 1) 48 (aV E) ∧ (∀ e ∈ E, e.Ok) ∧ E.length ≤ k ∧ Below w.heap.size w wr) (fun i _ => l.length - (intOf i).toNat)
    case atStart => exact ⟨0, [], _, 0, Nat.zero_le _, rfl, Nat.zero_le _, by simpa using hS1, (by have h := hI1; simp at h; exact h), (by have h := hN1; simp at h; exact h), (by have h := hT1; simp at h; exact h), by simp, Nat.le_refl _, hB1⟩
    case round =>
      clear hS0 hS1 hI1 hN1 hT1 hB1
      obtain ⟨k, E, sv, q, hk, rfl, hq, hS, hI, hN, hT, hE, hEk, hb0⟩ := hrel
      by_cases hlt : k < l.length
      · obtain ⟨ad, rfl, hab, hcell⟩ := (hr.below hb0).2 (by omega)
        have hx1 := List.getElem?_eq_getElem hlt
        obtain ⟨q0, q1, q2, q3⟩ := actsV_at l k _ hx1
        replace q0 := hcell _ _ q0
        replace q1 := hcell _ _ q1
        replace q2 := hcell _ _ q2
        replace q3 := hcell _ _ q3
        rw [add_pos'] at q1 q2 q3
        obtain ⟨xc, xn, xa⟩ := hx _ (List.getElem_mem hlt)
        have xa8 := hl8 _ (List.getElem_mem hlt)
        replace hx1 := Lib.hid hx1
        generalize l[k] = x at *
        clear hcell
        have hz := hb0.size
        have hbs := hS.lt
        have hil := hI.lt
        have hnl := hN.lt
        have htl := hT.lt
        obtain ⟨SA, scap, rfl, hSh⟩ := hS.shelf
        have hsz := getL_size E x.c xc hE
        have hEl : (evOps E).length ≤ 120 := by simp only [evOps, List.length_map]; omega
        have hask : ∀ (wz : World) (qz : Nat), qz ≤ 1000 → ShelfAt wz w.heap.size SA (evOps E) scap qz → Calls Tryd.prog 9 #[.iface 22 (.pointer (some ⟨w.heap.size, 0, none⟩)), .int .u8 x.c, .int .u64 x.n] wz fun e w' => e = .returned (.tuple #[.string (askL (evOps E) x.c x.n).1, .bool (askL (evOps E) x.c x.n).2.1, .int .i64 (askL (evOps E) x.c x.n).2.2]) ∧ Below wz.heap.size (wz.setCell ⟨w.heap.size, 1, none⟩ (.int .i64 ((qz : Int) + 1))) w' := by
          intro wz qz hqz hz
          have := Ask_any w.heap.size SA (evOps E) scap qz x.c x.n wz hz (by omega) (by omega) (by omega) (by omega) (by omega) (by omega) xn (by rw [Int.toNat_natCast]; exact hsz)
          rw [Int.toNat_natCast, Int.toNat_natCast] at this
          exact this
        have hkeep : ∀ wz, Calls Tryd.prog 7 #[.int .u8 x.c, .int .u64 x.n, .string x.a] wz fun e w' => e = .returned (.agg #[.string (bs (clientL x.c)), .string (bs (valueL x.n (x.a.data.toList.take 480))), .bool false]) ∧ Below wz.heap.size wz w' := by
          intro wz
          have := Keep_any x.c x.n x.a wz (by omega) (by omega) (by omega) xn (by omega)
          simpa using this
        replace hkeep := Lib.hid hkeep
        have hev := ask_ev E x.c x.n xc hE
        rcases hres : askL (evOps E) x.c x.n with ⟨r1, r2, r3⟩
        rw [hres] at hask hev
        replace hask := Lib.hid hask
        replace hev := Lib.hid hev
        replace hres := Lib.hid hres
        replace hsz := Lib.hid hsz
        have hX1 : Blk (wr.alloc (.cells #[.int .u8 x.c, .int .u64 x.n, .string x.a, .bool x.g] 40)) wr.heap.size 40 #[.int .u8 x.c, .int .u64 x.n, .string x.a, .bool x.g] := Blk.new _ _ _
        have hA1 : Below wr.heap.size wr (wr.alloc (.cells #[.int .u8 x.c, .int .u64 x.n, .string x.a, .bool x.g] 40)) := (Below.refl _ _).alloc (Nat.le_refl _) _
        have hS1 := hS.below hA1
        have hSh1 := hSh.below hA1
        have hB1 : Below w.heap.size w (wr.alloc (.cells #[.int .u8 x.c, .int .u64 x.n, .string x.a, .bool x.g] 40)) := hb0.trans (hA1.mono hz)
        have b0 : wr.cell? ⟨w.heap.size, 0, none⟩ = some (.slice SA (evOps E).length scap) := by simp [World.cell?, hS.box]
        replace hX1 := Lib.hid hX1
        replace hS1 := Lib.hid hS1
        replace hSh1 := Lib.hid hSh1
        replace hB1 := Lib.hid hB1
        go_wp2_with fail
        refine (hask.out _ q (by omega) hSh1.out).mono ?_
        rintro e w2 ⟨rfl, hb2⟩
        have hk2 := KeptBut.of_ask hb2
        have hS2 := hS1.out.next hb2
        have hX2 := hX1.out.kept hk2 (by omega)
        have hI2 := (hI.below hA1).kept hk2 (by omega)
        have hN2 := (hN.below hA1).kept hk2 (by omega)
        have hT2 := (hT.below hA1).kept hk2 (by omega)
        have hB2 := hB1.out.trans (hk2.below (B := w.heap.size) (fun k hk => by have hk' : k = _ := hk; omega) (by simp; omega))
        have x20 := hX2.cell 0
        have x21 := hX2.cell 1
        have x22 := hX2.cell 2
        have z2 := hX2.lt
        have zb2 := hB2.size
        replace hk2 := Lib.hid hk2
        obtain ⟨SA2, scap2, hSe, hSh2⟩ := hS2.shelf
        injection hSe with e1 e2 e3
        subst e1 e3
        go_wp2_with fail
        refine (hask.out _ (q + 1) (by omega) (by simpa using hSh2)).mono ?_
        rintro e w3 ⟨rfl, hb3⟩
        have hk3 := KeptBut.of_ask hb3
        have hS3 := hS2.next (by simpa using hb3)
        have hX3 := hX2.kept hk3 (by omega)
        have hI3 := hI2.kept hk3 (by omega)
        have hN3 := hN2.kept hk3 (by omega)
        have hT3 := hT2.kept hk3 (by omega)
        have hB3 := hB2.trans (hk3.below (B := w.heap.size) (fun k hk => by have hk' : k = _ := hk; omega) (by omega))
        have x30 := hX3.cell 0
        have x31 := hX3.cell 1
        have x32 := hX3.cell 2
        have b30 : w3.cell? ⟨w.heap.size, 0, none⟩ = some (.slice SA (evOps E).length scap) := by simp [World.cell?, hS3.box]
        have i3 := hI3.cell x.c (by omega)
        have n3 := hN3.cell x.c (by omega)
        have t3 := hT3.cell x.c (by omega)
        have z3 := hX3.lt
        replace hk3 := Lib.hid hk3
        clear hb2 hb3 x20 x21 x22
        have hd3 : Below w3.heap.size w3 w3.drew := (Below.refl _ _).drew
        have hS3D := hS3.below hd3
        have hI3D := hI3.below hd3
        have hN3D := hN3.below hd3
        have hT3D := hT3.below hd3
        have hB3D := hB3.trans (hd3.mono (by have := hB3.size; omega))
        replace hS3D := Lib.hid hS3D
        replace hI3D := Lib.hid hI3D
        replace hN3D := Lib.hid hN3D
        replace hT3D := Lib.hid hT3D
        replace hB3D := Lib.hid hB3D
        cases hle : lastEv E x.c with
        | none =>
          have h := hev.out
          rw [hle] at h
          injection h with e1 e2
          injection e2 with e2 e3
          subst e1 e2 e3
          unfold isV at i3
          unfold nV at n3
          unfold aV at t3
          rw [hle] at i3 n3 t3
          simp only [Option.isSome] at i3
          go_wp2_with fail
          go_region
          go_wp2_with fail
          have hXD := blk_below hX3 hd3
          have hrow := hS.row_lt
          have bD : w3.drew.cell? ⟨w.heap.size, 0, none⟩ = some (.slice SA (evOps E).length scap) := by simp [World.cell?, hS3D.out.box]
          generalize hwy : w3.drew = wy at *
          clear hwy x30 x31 x32 b30 i3 n3 t3
          have y0 := hXD.cell 0
          have y1 := hXD.cell 1
          have y2 := hXD.cell 2
          have hbl3 := hS3D.out.lt
          have hxl3 := hXD.lt
          have hxc := @Ext.cell
          have hxf := @Ext.frozen
          refine wp_hide (fun Q0 hQ0 => ?_)
          refine wp_region_line (fun w' => ∃ x : Ext _, w' = x.w) [some true, some false, some false, some false, some false, some false, some false, some false, some false, some false, some false, some false, none, none, none, none, none] 1 (by kernel_rfl) (by kernel_rfl) ⟨⟨_, (Below.refl _ _).drew⟩, rfl⟩ ?_
          simp only [earlyL, tailL]
          repeat (first | ((with_reducible refine wpMix_p ?_); go_big_quiet_step (fail); refine wpQuiet_nil ?_) | ((with_reducible refine wpMix_e ?_); go_big_quiet_step ((first | (go_at_call 7; exact Calls.ext (hkeep.out _)))); refine wpQuiet_nil ?_))
          refine wpMix_nil ?_
          clear hxc hxf
          intro wx hwx
          obtain ⟨x, hx⟩ := hwx
          have hb := x.below
          rw [← hx] at hb
          clear hx x
          have hbs := hb.size
          have hSx := hS3D.out.below hb
          have hXx := hXD.below hb hxl3
          have hIx := hI3D.out.below hb
          have hNx := hN3D.out.below hb
          have hTx := hT3D.out.below hb
          have hBx := hB3D.out.trans (hb.mono (by have := hB3D.out.size; omega))
          have hxlt := hXx.lt
          have hblt := hSx.lt
          have hxS : ¬ (wr.heap.size = w.heap.size ∨ (Value.slice SA (evOps E).length scap).ownBlock = some wr.heap.size) := by
            rintro (e | e)
            · omega
            · have := (hrow _ e).2; omega
          have hownx := World.ownsRow.alloc hSx.own (.cells #[.string (bs (clientL x.c)), .string (bs (valueL x.n (x.a.data.toList.take 480))), .bool false] 24)
          have hrd := reads3 wx 24 (.string (bs (clientL x.c))) (.string (bs (valueL x.n (x.a.data.toList.take 480)))) (.bool false)
          replace hSx := Lib.hid hSx
          replace hXx := Lib.hid hXx
          replace hIx := Lib.hid hIx
          replace hNx := Lib.hid hNx
          replace hTx := Lib.hid hTx
          replace hBx := Lib.hid hBx
          refine wpTail_step ?_
          intro Q1 hQ1
          go_wp2_with fail
          refine hQ1 _ _ rfl (fun _ => ⟨⟨_, hb.alloc hbs _⟩, rfl⟩) ?_
          clear hQ1 Q1
          refine wpTail_step ?_
          intro Q1 hQ1
          go_wp2_with (at_builtin; refine wpList_append_any _ rfl (.tmp 149) (.tmp 157) 28 rfl w.heap.size 24 i0 (.agg #[.string ⟨#[]⟩, .string ⟨#[]⟩, .bool false]) 3 40 Tryd.underlying28 hi0 hz0 hz1 hz2 rfl (by omega) (.slice SA (evOps E).length scap) (evOps E).length (opsV (evOps E)) rfl hownx (wx.heap.size + 1) (some ⟨wx.heap.size, 0, none⟩) 1 1 [.string (bs (clientL x.c)), .string (bs (valueL x.n (x.a.data.toList.take 480))), .bool false] rfl hrd (fun u hu => by simp at hu; rcases hu with rfl | rfl | rfl <;> rfl) (by unfold maxLen; omega) (by omega) (by simp; omega) ?_; intro v2 w2b hown2 hgr2 hat2)
          refine hQ1 _ _ rfl (fun h => absurd h (by decide)) ?_
          clear hQ1 Q1
          obtain ⟨hS5, hk5, c5, f5, A7, n7, cp7, h7⟩ := hSx.out.append (o := keepOp x.c x.n (x.a.data.toList.take 480)) hown2 hgr2 (by simpa using hat2)
          subst h7
          replace hS5 := Lib.hid hS5
          replace hk5 := Lib.hid hk5
          clear hown2 hgr2 hat2 hownx hrd
          refine wpTail_step ?_
          intro Q1 hQ1
          go_wp2_with (fail)
          refine hQ1 _ _ rfl (fun h => absurd h (by decide)) ?_
          clear hQ1 Q1
          refine wpTail_step ?_
          intro Q1 hQ1
          go_wp2_with (fail)
          refine hQ1 _ _ rfl (fun h => absurd h (by decide)) ?_
          clear hQ1 Q1
          refine wpTail_step ?_
          intro Q1 hQ1
          go_wp2_with (fail)
          refine hQ1 _ _ rfl (fun h => absurd h (by decide)) ?_
          clear hQ1 Q1
          refine wpTail_nil ?_
          refine hQ0 _ _ ?_
          clear hQ0 Q0
          clear c5 f5
          generalize hwz : w2b.setCell ⟨w.heap.size, 0, none⟩ (.slice A7 n7 cp7) = wz at *
          clear hwz
          generalize (Value.slice A7 n7 cp7) = sv2 at *
          replace hk5 := hk5.out
          have hz5 := hk5.size
          have hX5 := hXx.out.kept hk5 hxS
          have hI5 := hIx.out.kept hk5 (fun hS => hS.elim (fun e => by omega) (fun e => by obtain ⟨cs, hb, _⟩ := hIx.out; exact row_ne hSx.out.own hb (by decide) e))
          have hN5 := hNx.out.kept hk5 (fun hS => hS.elim (fun e => by omega) (fun e => by obtain ⟨cs, hb, _⟩ := hNx.out; exact row_ne hSx.out.own hb (by decide) e))
          have hT5 := hTx.out.kept hk5 (fun hS => hS.elim (fun e => by omega) (fun e => by obtain ⟨cs, hb, _⟩ := hTx.out; exact row_ne hSx.out.own hb (by decide) e))
          have hB5 : Below w.heap.size w wz := hBx.out.trans (hk5.below (fun k hk => hk.elim (fun e => by omega) (fun e => (hrow _ e).1)) (by omega))
          have hnI : sv2.ownBlock ≠ some (w.heap.size + 1) := by obtain ⟨cs, hb, _⟩ := hI5; exact row_ne hS5.out.own hb (by decide)
          have hnN : sv2.ownBlock ≠ some (w.heap.size + 1 + 1) := by obtain ⟨cs, hb, _⟩ := hN5; exact row_ne hS5.out.own hb (by decide)
          have hnT : sv2.ownBlock ≠ some (w.heap.size + 1 + 1 + 1) := by obtain ⟨cs, hb, _⟩ := hT5; exact row_ne hS5.out.own hb (by decide)
          clear hk5 hSx hXx hIx hNx hTx hBx hb
          replace hB5 := Lib.hid hB5
          go_wp2_with fail
          have hx23 : ¬ (wr.heap.size = w.heap.size + 1 ∨ wr.heap.size = w.heap.size + 1 + 1 ∨ wr.heap.size = w.heap.size + 1 + 1 + 1) := by omega
          have hxz := hX5.lt
          have xcI : (x.c : Int) < 256 := by omega
          replace hX5 := Lib.hid hX5
          refine wp_region_task (SJ 11 13 15 wz (w.heap.size + 1) (w.heap.size + 1 + 1) (w.heap.size + 1 + 1 + 1) 46 47 48 (isV E) (nV E) (aV E) x.c (.bool true) (.int .u64 x.n) (.string x.a)) (tauL [some (.pointer (some ⟨wr.heap.size, 0, none⟩)), some (.int .u8 x.c), some (.pointer (some ⟨wr.heap.size, 0, none⟩)), some (.int .u8 x.c), some (.pointer (some ⟨wr.heap.size, 0, none⟩)), some (.int .u8 x.c), some (.pointer (some ⟨wr.heap.size, 1, none⟩)), some (.int .u64 x.n), some (.pointer (some ⟨wr.heap.size, 2, none⟩)), some (.string x.a), some (.pointer (some ⟨w.heap.size + 1, x.c, none⟩)), none, some (.pointer (some ⟨w.heap.size + 1 + 1, x.c, none⟩)), none, some (.pointer (some ⟨w.heap.size + 1 + 1 + 1, x.c, none⟩)), none] tauN) (usL [u161, u162, u163, u164, u165, u166, u167, u168, u169, u170, u171, undef, u172, undef, u173, undef]) ?n1 ?n2 ?n3 ?n4 (SJ.start hI5 hN5 hT5) ?n5 ?n6
          case n1 => kernel_rfl
          case n2 => kernel_rfl
          case n3 => kernel_rfl
          case n4 => kernel_rfl
          case n5 =>
            refine ⟨?p0, ?p1, ?p2, ?p3, ?p4, ?p5, ?p6, ?p7, ?p8, ?p9, ?p10, ?p11, ?p12, ?p13, ?p14, ?p15, trivial⟩
            case p0 =>
              intro d us wx hd hJ hp hu hi
              refine .inl ⟨by kernel_rfl, fun K Q hK => ?_⟩
              simp only [putAll, Act.put, Nat.reduceAdd] at hK ⊢
              go_simp
              refine Eq.mp ?_ (hK (.pointer (some ⟨wr.heap.size, 0, none⟩)) _ (hJ.other 0 (by decide) (by decide) (by decide)) rfl (fun k u _ h => tauL_any k u h))
              kernel_rfl
            case p1 =>
              intro d us wx hd hJ hp hu hi
              have h0 : us 0 = _ := (hp 0 (by simp [Region.binds])).2
              have cx := (hJ.kept.cell ⟨wr.heap.size, 0, none⟩ hxz hx23).trans (hX5.out.cell 0)
              refine .inl ⟨by kernel_rfl, fun K Q hK => ?_⟩
              simp only [putAll, Act.put, Nat.reduceAdd, h0] at hK ⊢
              go_simp
              refine Eq.mp ?_ (hK (.int .u8 x.c) _ (hJ.other 1 (by decide) (by decide) (by decide)) rfl (fun k u _ h => tauL_any k u h))
              kernel_rfl
            case p2 =>
              intro d us wx hd hJ hp hu hi
              refine .inl ⟨by kernel_rfl, fun K Q hK => ?_⟩
              simp only [putAll, Act.put, Nat.reduceAdd] at hK ⊢
              go_simp
              refine Eq.mp ?_ (hK (.pointer (some ⟨wr.heap.size, 0, none⟩)) _ (hJ.other 2 (by decide) (by decide) (by decide)) rfl (fun k u _ h => tauL_any k u h))
              kernel_rfl
            case p3 =>
              intro d us wx hd hJ hp hu hi
              have h2 : us 2 = _ := (hp 2 (by simp [Region.binds])).2
              have cx := (hJ.kept.cell ⟨wr.heap.size, 0, none⟩ hxz hx23).trans (hX5.out.cell 0)
              refine .inl ⟨by kernel_rfl, fun K Q hK => ?_⟩
              simp only [putAll, Act.put, Nat.reduceAdd, h2] at hK ⊢
              go_simp
              refine Eq.mp ?_ (hK (.int .u8 x.c) _ (hJ.other 3 (by decide) (by decide) (by decide)) rfl (fun k u _ h => tauL_any k u h))
              kernel_rfl
            case p4 =>
              intro d us wx hd hJ hp hu hi
              refine .inl ⟨by kernel_rfl, fun K Q hK => ?_⟩
              simp only [putAll, Act.put, Nat.reduceAdd] at hK ⊢
              go_simp
              refine Eq.mp ?_ (hK (.pointer (some ⟨wr.heap.size, 0, none⟩)) _ (hJ.other 4 (by decide) (by decide) (by decide)) rfl (fun k u _ h => tauL_any k u h))
              kernel_rfl
            case p5 =>
              intro d us wx hd hJ hp hu hi
              have h4 : us 4 = _ := (hp 4 (by simp [Region.binds])).2
              have cx := (hJ.kept.cell ⟨wr.heap.size, 0, none⟩ hxz hx23).trans (hX5.out.cell 0)
              refine .inl ⟨by kernel_rfl, fun K Q hK => ?_⟩
              simp only [putAll, Act.put, Nat.reduceAdd, h4] at hK ⊢
              go_simp
              refine Eq.mp ?_ (hK (.int .u8 x.c) _ (hJ.other 5 (by decide) (by decide) (by decide)) rfl (fun k u _ h => tauL_any k u h))
              kernel_rfl
            case p6 =>
              intro d us wx hd hJ hp hu hi
              refine .inl ⟨by kernel_rfl, fun K Q hK => ?_⟩
              simp only [putAll, Act.put, Nat.reduceAdd] at hK ⊢
              go_simp
              refine Eq.mp ?_ (hK (.pointer (some ⟨wr.heap.size, 1, none⟩)) _ (hJ.other 6 (by decide) (by decide) (by decide)) rfl (fun k u _ h => tauL_any k u h))
              kernel_rfl
            case p7 =>
              intro d us wx hd hJ hp hu hi
              have h6 : us 6 = _ := (hp 6 (by simp [Region.binds])).2
              have cx := (hJ.kept.cell ⟨wr.heap.size, 1, none⟩ hxz hx23).trans (hX5.out.cell 1)
              refine .inl ⟨by kernel_rfl, fun K Q hK => ?_⟩
              simp only [putAll, Act.put, Nat.reduceAdd, h6] at hK ⊢
              go_simp
              refine Eq.mp ?_ (hK (.int .u64 x.n) _ (hJ.other 7 (by decide) (by decide) (by decide)) rfl (fun k u _ h => tauL_any k u h))
              kernel_rfl
            case p8 =>
              intro d us wx hd hJ hp hu hi
              refine .inl ⟨by kernel_rfl, fun K Q hK => ?_⟩
              simp only [putAll, Act.put, Nat.reduceAdd] at hK ⊢
              go_simp
              refine Eq.mp ?_ (hK (.pointer (some ⟨wr.heap.size, 2, none⟩)) _ (hJ.other 8 (by decide) (by decide) (by decide)) rfl (fun k u _ h => tauL_any k u h))
              kernel_rfl
            case p9 =>
              intro d us wx hd hJ hp hu hi
              have h8 : us 8 = _ := (hp 8 (by simp [Region.binds])).2
              have cx := (hJ.kept.cell ⟨wr.heap.size, 2, none⟩ hxz hx23).trans (hX5.out.cell 2)
              refine .inl ⟨by kernel_rfl, fun K Q hK => ?_⟩
              simp only [putAll, Act.put, Nat.reduceAdd, h8] at hK ⊢
              go_simp
              refine Eq.mp ?_ (hK (.string x.a) _ (hJ.other 9 (by decide) (by decide) (by decide)) rfl (fun k u _ h => tauL_any k u h))
              kernel_rfl
            case p10 =>
              intro d us wx hd hJ hp hu hi
              have h1 : us 1 = _ := (hp 1 (by simp [Region.binds])).2
              refine .inl ⟨by kernel_rfl, fun K Q hK => ?_⟩
              simp only [putAll, Act.put, Nat.reduceAdd, h1] at hK ⊢
              go_simp
              refine Eq.mp ?_ (hK (.pointer (some ⟨w.heap.size + 1, x.c, none⟩)) _ (hJ.other 10 (by decide) (by decide) (by decide)) rfl (fun k u _ h => tauL_any k u h))
              kernel_rfl
            case p11 =>
              intro d us wx hd hJ hp hu hi
              have h10 : us 10 = _ := (hp 10 (by simp [Region.binds])).2
              have f4 := hJ.atI.frozen x.c
              have c4 := hJ.atI.cell x.c (by omega)
              refine .inl ⟨by kernel_rfl, fun K Q hK => ?_⟩
              simp only [putAll, Act.put, Nat.reduceAdd, h10] at hK ⊢
              go_simp
              refine Eq.mp ?_ (hK (undef) (wx.setCell ⟨w.heap.size + 1, x.c, none⟩ (.bool true)) (hJ.set1 (by decide) (by decide) (by omega) (by omega)) trivial (fun k u _ h => tauL_any k u h))
              kernel_rfl
            case p12 =>
              intro d us wx hd hJ hp hu hi
              have h3 : us 3 = _ := (hp 3 (by simp [Region.binds])).2
              refine .inl ⟨by kernel_rfl, fun K Q hK => ?_⟩
              simp only [putAll, Act.put, Nat.reduceAdd, h3] at hK ⊢
              go_simp
              refine Eq.mp ?_ (hK (.pointer (some ⟨w.heap.size + 1 + 1, x.c, none⟩)) _ (hJ.other 12 (by decide) (by decide) (by decide)) rfl (fun k u _ h => tauL_any k u h))
              kernel_rfl
            case p13 =>
              intro d us wx hd hJ hp hu hi
              have h12 : us 12 = _ := (hp 12 (by simp [Region.binds])).2
              have h7 : us 7 = _ := (hp 7 (by simp [Region.binds])).2
              have f4 := hJ.atN.frozen x.c
              have c4 := hJ.atN.cell x.c (by omega)
              refine .inl ⟨by kernel_rfl, fun K Q hK => ?_⟩
              simp only [putAll, Act.put, Nat.reduceAdd, h12, h7] at hK ⊢
              go_simp
              refine Eq.mp ?_ (hK (undef) (wx.setCell ⟨w.heap.size + 1 + 1, x.c, none⟩ (.int .u64 x.n)) (hJ.set2 (by decide) (by decide) (by omega) (by omega)) trivial (fun k u _ h => tauL_any k u h))
              kernel_rfl
            case p14 =>
              intro d us wx hd hJ hp hu hi
              have h5 : us 5 = _ := (hp 5 (by simp [Region.binds])).2
              refine .inl ⟨by kernel_rfl, fun K Q hK => ?_⟩
              simp only [putAll, Act.put, Nat.reduceAdd, h5] at hK ⊢
              go_simp
              refine Eq.mp ?_ (hK (.pointer (some ⟨w.heap.size + 1 + 1 + 1, x.c, none⟩)) _ (hJ.other 14 (by decide) (by decide) (by decide)) rfl (fun k u _ h => tauL_any k u h))
              kernel_rfl
            case p15 =>
              intro d us wx hd hJ hp hu hi
              have h14 : us 14 = _ := (hp 14 (by simp [Region.binds])).2
              have h9 : us 9 = _ := (hp 9 (by simp [Region.binds])).2
              have f4 := hJ.atT.frozen x.c
              have c4 := hJ.atT.cell x.c (by omega)
              refine .inl ⟨by kernel_rfl, fun K Q hK => ?_⟩
              simp only [putAll, Act.put, Nat.reduceAdd, h14, h9] at hK ⊢
              go_simp
              refine Eq.mp ?_ (hK (undef) (wx.setCell ⟨w.heap.size + 1 + 1 + 1, x.c, none⟩ (.string x.a)) (hJ.set3 (by decide) (by decide) (by omega) (by omega)) trivial (fun k u _ h => tauL_any k u h))
              kernel_rfl
          case n6 =>
            intro d us wq hJ hall
            have d11 := (hall 11 (by simp)).1
            have d13 := (hall 13 (by simp)).1
            have d15 := (hall 15 (by simp)).1
            have hk6 := hJ.kept
            have hz6 := hk6.size
            have hS6 := hS5.out.kept hk6 (by omega) (fun k hk hS => by rcases hS with rfl | rfl | rfl; exact hnI hk; exact hnN hk; exact hnT hk)
            have hX6 := hX5.out.kept hk6 hx23
            have hI6 := (hJ.atI).congr (f' := isV (E ++ [⟨x.c, x.n, x.a.data.toList.take 480⟩])) (fun i => by rw [isV_snoc, d11]; simp)
            have hN6 := (hJ.atN).congr (f' := nV (E ++ [⟨x.c, x.n, x.a.data.toList.take 480⟩])) (fun i => by rw [nV_snoc, d13]; simp)
            have hT6 := (hJ.atT).congr (f' := fun i => if i = x.c then .string x.a else aV E i) (fun i => by rw [d15]; simp)
            have hB6 : Below w.heap.size w wq := hB5.out.trans (hk6.below (fun k hk => by omega) (by omega))
            have x62 := hX6.cell 2
            have x60 := hX6.cell 0
            have x61 := hX6.cell 1
            simp only [putAll, Act.put, Nat.reduceAdd]
            replace hJ := Lib.hid hJ
            replace hS6 := Lib.hid hS6
            replace hB6 := Lib.hid hB6
            clear hall hk6
            have hE2 : ∀ e ∈ E ++ [⟨x.c, x.n, x.a.data.toList.take 480⟩], e.Ok := by
              intro e he
              simp at he
              rcases he with he | rfl
              · exact hE e he
              · exact ⟨xc, by simp only []; omega, by simp only [List.length_take]; omega⟩
            have hsz2 := getL_size (E ++ [⟨x.c, x.n, x.a.data.toList.take 480⟩]) x.c xc hE2
            have hEl2 : (evOps (E ++ [⟨x.c, x.n, x.a.data.toList.take 480⟩])).length ≤ 130 := by simp only [evOps, List.length_map, List.length_append, List.length_singleton] at hEl ⊢; omega
            have hev2 := ask_ev (E ++ [⟨x.c, x.n, x.a.data.toList.take 480⟩]) x.c x.n xc hE2
            rw [lastEv_at, if_pos rfl] at hev2
            simp only [Nat.lt_irrefl, if_false] at hev2
            have hask3 : ∀ (wz : World) (A3 : Option Addr) (c3 : Nat) (qz : Int), 0 ≤ qz → qz ≤ 1000 → ShelfAt wz w.heap.size A3 (evOps (E ++ [⟨x.c, x.n, x.a.data.toList.take 480⟩])) c3 qz → Calls Tryd.prog 9 #[.iface 22 (.pointer (some ⟨w.heap.size, 0, none⟩)), .int .u8 x.c, .int .u64 x.n] wz fun e w' => e = .returned (.tuple #[.string (bs (x.a.data.toList.take 480)), .bool true, .int .i64 0]) ∧ Below wz.heap.size (wz.setCell ⟨w.heap.size, 1, none⟩ (.int .i64 (qz + 1))) w' := by
              intro wz A3 c3 qz hq0 hqz hz
              have := Ask_any w.heap.size A3 (evOps (E ++ [⟨x.c, x.n, x.a.data.toList.take 480⟩])) c3 qz x.c x.n wz hz (by omega) (by omega) (by omega) (by omega) (by omega) (by omega) xn (by rw [Int.toNat_natCast]; exact hsz2)
              rw [Int.toNat_natCast, Int.toNat_natCast, hev2] at this
              exact this
            have hS6' : ShelfOwn wq w.heap.size w.heap.size sv2 (evOps (E ++ [⟨x.c, x.n, x.a.data.toList.take 480⟩])) ((q : Int) + 1 + 1) := by rw [evOps_snoc]; exact hS6.out
            replace hask3 := Lib.hid hask3
            replace hS6' := Lib.hid hS6'
            clear hev2 hsz2
            by_cases hla : x.a.size ≤ 480
            · have hsame : bs (x.a.data.toList.take 480) = x.a := by rw [List.take_of_length_le (by simpa using hla), bs_of]
              have hT7 : ArrAt wq (w.heap.size + 1 + 1 + 1) 48 (aV (E ++ [⟨x.c, x.n, x.a.data.toList.take 480⟩])) := hT6.congr (fun i => by rw [aV_snoc]; simp only []; rw [hsame])
              have t7 := hT7.cell x.c (by omega)
              rw [aV_snoc, if_pos rfl] at t7
              simp only [] at t7
              replace hsame := Lib.hid hsame
              obtain ⟨A7, c7, hA7, hSh7⟩ := hS6'.out.shelf
              have hSN := fun (wv : World) (h : Below wq.heap.size (wq.setCell ⟨w.heap.size, 1, none⟩ (.int .i64 (((q : Int) + 1 + 1) + 1))) wv) => hS6'.out.next h
              replace hSN := Lib.hid hSN
              clear hT6
              replace hA7 := Lib.hid hA7
              go_wp2_with fail
              refine (hask3.out _ A7 c7 ((q : Int) + 1 + 1) (by omega) (by omega) hSh7).mono ?_
              rintro e w8 ⟨rfl, hb8⟩
              have hk8 := KeptBut.of_ask hb8
              have hS8 := hSN.out _ hb8
              have hX8 := hX6.kept hk8 (by omega)
              have hI8 := hI6.kept hk8 (by omega)
              have hN8 := hN6.kept hk8 (by omega)
              have hT8 := hT7.kept hk8 (by omega)
              have hB8 := hB6.out.trans (hk8.below (B := w.heap.size) (fun k hk => by have hk' : k = _ := hk; omega) (by omega))
              have x80 := hX8.cell 0
              have t8 := hT8.cell x.c (by omega)
              rw [aV_snoc, if_pos rfl] at t8
              simp only [] at t8
              replace hk8 := Lib.hid hk8
              clear hb8
              go_wp2_with fail
              exact ⟨⟨k + 1, E ++ [⟨x.c, x.n, x.a.data.toList.take 480⟩], _, q + 1 + 1 + 1, by omega, by go_num, by omega, by simpa using hS8, hI8, hN8, hT8, hE2, by simp; omega, hB8⟩, by simp [intOf]; omega⟩
            · have hcut : x.a.extract 0 480 = bs (x.a.data.toList.take 480) := by rw [ext_bs]; simp
              have hx6l := hX6.lt
              have hgt : ¬ (x.a.size : Int) ≤ 480 := by omega
              go_wp2_with fail
              have hxc := @Ext.cell
              have hxf := @Ext.frozen
              refine wp_hide (fun Q0 hQ0 => ?_)
              refine wp_region_line (fun w' => ∃ x : Ext _, w' = x.w) [some false, some false, some false, some false, some false, some false, none] 0 (by kernel_rfl) (by kernel_rfl) ⟨⟨_, (Below.refl _ _).drew⟩, rfl⟩ ?_
              simp only [earlyL, tailL]
              repeat (first | ((with_reducible refine wpMix_p ?_); go_big_quiet_step (fail); refine wpQuiet_nil ?_) | ((with_reducible refine wpMix_e ?_); go_big_quiet_step ((first | fail)); refine wpQuiet_nil ?_))
              refine wpMix_nil ?_
              clear hxc hxf
              intro wx hwx
              obtain ⟨x, hx⟩ := hwx
              have hb := x.below
              rw [← hx] at hb
              clear hx x
              have hb1 := hb
              replace hb1 := Lib.hid hb1
              have hX7 := hX6.below hb hx6l
              have hT7a := hT6.below hb
              have c7 := hT7a.cell x.c (by omega)
              have f7 := hT7a.frozen x.c
              have hk7 : KeptBut wx (wx.setCell ⟨w.heap.size + 1 + 1 + 1, x.c, none⟩ (.string (bs (x.a.data.toList.take 480)))) (fun b => b = w.heap.size + 1 + 1 + 1) := (KeptBut.refl wx _).then_set rfl
              have hX7 := (hX6.below hb hx6l).kept hk7 (by omega)
              have hI7 := (hI6.below hb).kept hk7 (by omega)
              have hN7 := (hN6.below hb).kept hk7 (by omega)
              have hT7 : ArrAt (wx.setCell ⟨w.heap.size + 1 + 1 + 1, x.c, none⟩ (.string (bs (x.a.data.toList.take 480)))) (w.heap.size + 1 + 1 + 1) 48 (aV (E ++ [⟨x.c, x.n, x.a.data.toList.take 480⟩])) := (hT7a.set x.c (.string (bs (x.a.data.toList.take 480)))).congr (fun i => by rw [aV_snoc]; simp only []; split <;> rfl)
              have hS7 := (hS6'.out.below hb).kept hk7 (by omega) (fun k hk hS => by subst hS; exact hnT hk)
              have hB7 : Below w.heap.size w (wx.setCell ⟨w.heap.size + 1 + 1 + 1, x.c, none⟩ (.string (bs (x.a.data.toList.take 480)))) := (hB6.out.trans (hb.mono (by omega))).trans (hk7.below (fun k hk => by have hk' : k = _ := hk; omega) (by have := hb.size; omega))
              have x70 := hX7.cell 0
              have x71 := hX7.cell 1
              obtain ⟨A7, cc7, hA7, hSh7⟩ := hS7.shelf
              have hx7l := hX7.lt
              replace hX7 := Lib.hid hX7
              replace hI7 := Lib.hid hI7
              replace hN7 := Lib.hid hN7
              replace hT7 := Lib.hid hT7
              replace hS7 := Lib.hid hS7
              replace hB7 := Lib.hid hB7
              replace hSh7 := Lib.hid hSh7
              replace hA7 := Lib.hid hA7
              clear hk7 hS6' hS6 hB6 hX6 hI6 hN6 hT6 hb x62 x60 x61 hT7a
              refine wpTail_step ?_
              intro Q1 hQ1
              go_wp2_with (fail)
              refine hQ1 _ _ rfl (fun h => absurd h (by decide)) ?_
              clear hQ1 Q1
              refine wpTail_nil ?_
              refine hQ0 _ _ ?_
              clear hQ0 Q0
              clear c7 f7
              go_wp2_with fail
              refine (hask3.out _ A7 cc7 ((q : Int) + 1 + 1) (by omega) (by omega) hSh7.out).mono ?_
              rintro e w8 ⟨rfl, hb8⟩
              have hk8 := KeptBut.of_ask hb8
              have hS8 := hS7.out.next hb8
              have hX8 := hX7.out.kept hk8 (by omega)
              have hI8 := hI7.out.kept hk8 (by omega)
              have hN8 := hN7.out.kept hk8 (by omega)
              have hT8 := hT7.out.kept hk8 (by omega)
              have hB8 := hB7.out.trans (hk8.below (B := w.heap.size) (fun k hk => by have hk' : k = _ := hk; omega) (by simp; have := hb1.out.size; omega))
              have x80 := hX8.cell 0
              have t8 := hT8.cell x.c (by omega)
              rw [aV_snoc, if_pos rfl] at t8
              simp only [] at t8
              replace hk8 := Lib.hid hk8
              clear hb8
              go_wp2_with fail
              exact ⟨⟨k + 1, E ++ [⟨x.c, x.n, x.a.data.toList.take 480⟩], _, q + 1 + 1 + 1, by omega, by go_num, by omega, by simpa using hS8, hI8, hN8, hT8, hE2, by simp; omega, hB8⟩, by simp [intOf]; omega⟩
        | some ev =>
          have h := hev.out
          rw [hle] at h
          simp only [] at h
          unfold isV at i3
          unfold nV at n3
          unfold aV at t3
          rw [hle] at i3 n3 t3
          simp only [Option.isSome] at i3 n3 t3
          have evn := (hE ev (lastEv_mem E x.c ev hle).1).n
          by_cases h1 : ev.n < x.n
          · rw [if_pos h1] at h
            injection h with e1 e2
            injection e2 with e2 e3
            subst e1 e2 e3
            have d2 : ((ev.n : Int) == (x.n : Int)) = false := by simp; omega
            have d2' : ¬ (ev.n : Int) = (x.n : Int) := by omega
            have d3 : ¬ (x.n : Int) < (ev.n : Int) := by omega
            have n2 : ¬ ev.n = x.n := by omega
            have n3 : ¬ x.n < ev.n := by omega
            go_wp2_with fail
            go_region
            go_wp2_with fail
            have hXD := blk_below hX3 hd3
            have hrow := hS.row_lt
            have bD : w3.drew.cell? ⟨w.heap.size, 0, none⟩ = some (.slice SA (evOps E).length scap) := by simp [World.cell?, hS3D.out.box]
            generalize hwy : w3.drew = wy at *
            clear hwy x30 x31 x32 b30 i3 n3 t3
            have y0 := hXD.cell 0
            have y1 := hXD.cell 1
            have y2 := hXD.cell 2
            have hbl3 := hS3D.out.lt
            have hxl3 := hXD.lt
            have hxc := @Ext.cell
            have hxf := @Ext.frozen
            refine wp_hide (fun Q0 hQ0 => ?_)
            refine wp_region_line (fun w' => ∃ x : Ext _, w' = x.w) [some true, some false, some false, some false, some false, some false, some false, some false, some false, some false, some false, some false, none, none, none, none, none] 1 (by kernel_rfl) (by kernel_rfl) ⟨⟨_, (Below.refl _ _).drew⟩, rfl⟩ ?_
            simp only [earlyL, tailL]
            repeat (first | ((with_reducible refine wpMix_p ?_); go_big_quiet_step (fail); refine wpQuiet_nil ?_) | ((with_reducible refine wpMix_e ?_); go_big_quiet_step ((first | (go_at_call 7; exact Calls.ext (hkeep.out _)))); refine wpQuiet_nil ?_))
            refine wpMix_nil ?_
            clear hxc hxf
            intro wx hwx
            obtain ⟨x, hx⟩ := hwx
            have hb := x.below
            rw [← hx] at hb
            clear hx x
            have hbs := hb.size
            have hSx := hS3D.out.below hb
            have hXx := hXD.below hb hxl3
            have hIx := hI3D.out.below hb
            have hNx := hN3D.out.below hb
            have hTx := hT3D.out.below hb
            have hBx := hB3D.out.trans (hb.mono (by have := hB3D.out.size; omega))
            have hxlt := hXx.lt
            have hblt := hSx.lt
            have hxS : ¬ (wr.heap.size = w.heap.size ∨ (Value.slice SA (evOps E).length scap).ownBlock = some wr.heap.size) := by
              rintro (e | e)
              · omega
              · have := (hrow _ e).2; omega
            have hownx := World.ownsRow.alloc hSx.own (.cells #[.string (bs (clientL x.c)), .string (bs (valueL x.n (x.a.data.toList.take 480))), .bool false] 24)
            have hrd := reads3 wx 24 (.string (bs (clientL x.c))) (.string (bs (valueL x.n (x.a.data.toList.take 480)))) (.bool false)
            replace hSx := Lib.hid hSx
            replace hXx := Lib.hid hXx
            replace hIx := Lib.hid hIx
            replace hNx := Lib.hid hNx
            replace hTx := Lib.hid hTx
            replace hBx := Lib.hid hBx
            refine wpTail_step ?_
            intro Q1 hQ1
            go_wp2_with fail
            refine hQ1 _ _ rfl (fun _ => ⟨⟨_, hb.alloc hbs _⟩, rfl⟩) ?_
            clear hQ1 Q1
            refine wpTail_step ?_
            intro Q1 hQ1
            go_wp2_with (at_builtin; refine wpList_append_any _ rfl (.tmp 149) (.tmp 157) 28 rfl w.heap.size 24 i0 (.agg #[.string ⟨#[]⟩, .string ⟨#[]⟩, .bool false]) 3 40 Tryd.underlying28 hi0 hz0 hz1 hz2 rfl (by omega) (.slice SA (evOps E).length scap) (evOps E).length (opsV (evOps E)) rfl hownx (wx.heap.size + 1) (some ⟨wx.heap.size, 0, none⟩) 1 1 [.string (bs (clientL x.c)), .string (bs (valueL x.n (x.a.data.toList.take 480))), .bool false] rfl hrd (fun u hu => by simp at hu; rcases hu with rfl | rfl | rfl <;> rfl) (by unfold maxLen; omega) (by omega) (by simp; omega) ?_; intro v2 w2b hown2 hgr2 hat2)
            refine hQ1 _ _ rfl (fun h => absurd h (by decide)) ?_
            clear hQ1 Q1
            obtain ⟨hS5, hk5, c5, f5, A7, n7, cp7, h7⟩ := hSx.out.append (o := keepOp x.c x.n (x.a.data.toList.take 480)) hown2 hgr2 (by simpa using hat2)
            subst h7
            replace hS5 := Lib.hid hS5
            replace hk5 := Lib.hid hk5
            clear hown2 hgr2 hat2 hownx hrd
            refine wpTail_step ?_
            intro Q1 hQ1
            go_wp2_with (fail)
            refine hQ1 _ _ rfl (fun h => absurd h (by decide)) ?_
            clear hQ1 Q1
            refine wpTail_step ?_
            intro Q1 hQ1
            go_wp2_with (fail)
            refine hQ1 _ _ rfl (fun h => absurd h (by decide)) ?_
            clear hQ1 Q1
            refine wpTail_step ?_
            intro Q1 hQ1
            go_wp2_with (fail)
            refine hQ1 _ _ rfl (fun h => absurd h (by decide)) ?_
            clear hQ1 Q1
            refine wpTail_nil ?_
            refine hQ0 _ _ ?_
            clear hQ0 Q0
            clear c5 f5
            generalize hwz : w2b.setCell ⟨w.heap.size, 0, none⟩ (.slice A7 n7 cp7) = wz at *
            clear hwz
            generalize (Value.slice A7 n7 cp7) = sv2 at *
            replace hk5 := hk5.out
            have hz5 := hk5.size
            have hX5 := hXx.out.kept hk5 hxS
            have hI5 := hIx.out.kept hk5 (fun hS => hS.elim (fun e => by omega) (fun e => by obtain ⟨cs, hb, _⟩ := hIx.out; exact row_ne hSx.out.own hb (by decide) e))
            have hN5 := hNx.out.kept hk5 (fun hS => hS.elim (fun e => by omega) (fun e => by obtain ⟨cs, hb, _⟩ := hNx.out; exact row_ne hSx.out.own hb (by decide) e))
            have hT5 := hTx.out.kept hk5 (fun hS => hS.elim (fun e => by omega) (fun e => by obtain ⟨cs, hb, _⟩ := hTx.out; exact row_ne hSx.out.own hb (by decide) e))
            have hB5 : Below w.heap.size w wz := hBx.out.trans (hk5.below (fun k hk => hk.elim (fun e => by omega) (fun e => (hrow _ e).1)) (by omega))
            have hnI : sv2.ownBlock ≠ some (w.heap.size + 1) := by obtain ⟨cs, hb, _⟩ := hI5; exact row_ne hS5.out.own hb (by decide)
            have hnN : sv2.ownBlock ≠ some (w.heap.size + 1 + 1) := by obtain ⟨cs, hb, _⟩ := hN5; exact row_ne hS5.out.own hb (by decide)
            have hnT : sv2.ownBlock ≠ some (w.heap.size + 1 + 1 + 1) := by obtain ⟨cs, hb, _⟩ := hT5; exact row_ne hS5.out.own hb (by decide)
            clear hk5 hSx hXx hIx hNx hTx hBx hb
            replace hB5 := Lib.hid hB5
            go_wp2_with fail
            have hx23 : ¬ (wr.heap.size = w.heap.size + 1 ∨ wr.heap.size = w.heap.size + 1 + 1 ∨ wr.heap.size = w.heap.size + 1 + 1 + 1) := by omega
            have hxz := hX5.lt
            have xcI : (x.c : Int) < 256 := by omega
            replace hX5 := Lib.hid hX5
            refine wp_region_task (SJ 11 13 15 wz (w.heap.size + 1) (w.heap.size + 1 + 1) (w.heap.size + 1 + 1 + 1) 46 47 48 (isV E) (nV E) (aV E) x.c (.bool true) (.int .u64 x.n) (.string x.a)) (tauL [some (.pointer (some ⟨wr.heap.size, 0, none⟩)), some (.int .u8 x.c), some (.pointer (some ⟨wr.heap.size, 0, none⟩)), some (.int .u8 x.c), some (.pointer (some ⟨wr.heap.size, 0, none⟩)), some (.int .u8 x.c), some (.pointer (some ⟨wr.heap.size, 1, none⟩)), some (.int .u64 x.n), some (.pointer (some ⟨wr.heap.size, 2, none⟩)), some (.string x.a), some (.pointer (some ⟨w.heap.size + 1, x.c, none⟩)), none, some (.pointer (some ⟨w.heap.size + 1 + 1, x.c, none⟩)), none, some (.pointer (some ⟨w.heap.size + 1 + 1 + 1, x.c, none⟩)), none] tauN) (usL [u161, u162, u163, u164, u165, u166, u167, u168, u169, u170, u171, undef, u172, undef, u173, undef]) ?n1 ?n2 ?n3 ?n4 (SJ.start hI5 hN5 hT5) ?n5 ?n6
            case n1 => kernel_rfl
            case n2 => kernel_rfl
            case n3 => kernel_rfl
            case n4 => kernel_rfl
            case n5 =>
              refine ⟨?p0, ?p1, ?p2, ?p3, ?p4, ?p5, ?p6, ?p7, ?p8, ?p9, ?p10, ?p11, ?p12, ?p13, ?p14, ?p15, trivial⟩
              case p0 =>
                intro d us wx hd hJ hp hu hi
                refine .inl ⟨by kernel_rfl, fun K Q hK => ?_⟩
                simp only [putAll, Act.put, Nat.reduceAdd] at hK ⊢
                go_simp
                refine Eq.mp ?_ (hK (.pointer (some ⟨wr.heap.size, 0, none⟩)) _ (hJ.other 0 (by decide) (by decide) (by decide)) rfl (fun k u _ h => tauL_any k u h))
                kernel_rfl
              case p1 =>
                intro d us wx hd hJ hp hu hi
                have h0 : us 0 = _ := (hp 0 (by simp [Region.binds])).2
                have cx := (hJ.kept.cell ⟨wr.heap.size, 0, none⟩ hxz hx23).trans (hX5.out.cell 0)
                refine .inl ⟨by kernel_rfl, fun K Q hK => ?_⟩
                simp only [putAll, Act.put, Nat.reduceAdd, h0] at hK ⊢
                go_simp
                refine Eq.mp ?_ (hK (.int .u8 x.c) _ (hJ.other 1 (by decide) (by decide) (by decide)) rfl (fun k u _ h => tauL_any k u h))
                kernel_rfl
              case p2 =>
                intro d us wx hd hJ hp hu hi
                refine .inl ⟨by kernel_rfl, fun K Q hK => ?_⟩
                simp only [putAll, Act.put, Nat.reduceAdd] at hK ⊢
                go_simp
                refine Eq.mp ?_ (hK (.pointer (some ⟨wr.heap.size, 0, none⟩)) _ (hJ.other 2 (by decide) (by decide) (by decide)) rfl (fun k u _ h => tauL_any k u h))
                kernel_rfl
              case p3 =>
                intro d us wx hd hJ hp hu hi
                have h2 : us 2 = _ := (hp 2 (by simp [Region.binds])).2
                have cx := (hJ.kept.cell ⟨wr.heap.size, 0, none⟩ hxz hx23).trans (hX5.out.cell 0)
                refine .inl ⟨by kernel_rfl, fun K Q hK => ?_⟩
                simp only [putAll, Act.put, Nat.reduceAdd, h2] at hK ⊢
                go_simp
                refine Eq.mp ?_ (hK (.int .u8 x.c) _ (hJ.other 3 (by decide) (by decide) (by decide)) rfl (fun k u _ h => tauL_any k u h))
                kernel_rfl
              case p4 =>
                intro d us wx hd hJ hp hu hi
                refine .inl ⟨by kernel_rfl, fun K Q hK => ?_⟩
                simp only [putAll, Act.put, Nat.reduceAdd] at hK ⊢
                go_simp
                refine Eq.mp ?_ (hK (.pointer (some ⟨wr.heap.size, 0, none⟩)) _ (hJ.other 4 (by decide) (by decide) (by decide)) rfl (fun k u _ h => tauL_any k u h))
                kernel_rfl
              case p5 =>
                intro d us wx hd hJ hp hu hi
                have h4 : us 4 = _ := (hp 4 (by simp [Region.binds])).2
                have cx := (hJ.kept.cell ⟨wr.heap.size, 0, none⟩ hxz hx23).trans (hX5.out.cell 0)
                refine .inl ⟨by kernel_rfl, fun K Q hK => ?_⟩
                simp only [putAll, Act.put, Nat.reduceAdd, h4] at hK ⊢
                go_simp
                refine Eq.mp ?_ (hK (.int .u8 x.c) _ (hJ.other 5 (by decide) (by decide) (by decide)) rfl (fun k u _ h => tauL_any k u h))
                kernel_rfl
              case p6 =>
                intro d us wx hd hJ hp hu hi
                refine .inl ⟨by kernel_rfl, fun K Q hK => ?_⟩
                simp only [putAll, Act.put, Nat.reduceAdd] at hK ⊢
                go_simp
                refine Eq.mp ?_ (hK (.pointer (some ⟨wr.heap.size, 1, none⟩)) _ (hJ.other 6 (by decide) (by decide) (by decide)) rfl (fun k u _ h => tauL_any k u h))
                kernel_rfl
              case p7 =>
                intro d us wx hd hJ hp hu hi
                have h6 : us 6 = _ := (hp 6 (by simp [Region.binds])).2
                have cx := (hJ.kept.cell ⟨wr.heap.size, 1, none⟩ hxz hx23).trans (hX5.out.cell 1)
                refine .inl ⟨by kernel_rfl, fun K Q hK => ?_⟩
                simp only [putAll, Act.put, Nat.reduceAdd, h6] at hK ⊢
                go_simp
                refine Eq.mp ?_ (hK (.int .u64 x.n) _ (hJ.other 7 (by decide) (by decide) (by decide)) rfl (fun k u _ h => tauL_any k u h))
                kernel_rfl
              case p8 =>
                intro d us wx hd hJ hp hu hi
                refine .inl ⟨by kernel_rfl, fun K Q hK => ?_⟩
                simp only [putAll, Act.put, Nat.reduceAdd] at hK ⊢
                go_simp
                refine Eq.mp ?_ (hK (.pointer (some ⟨wr.heap.size, 2, none⟩)) _ (hJ.other 8 (by decide) (by decide) (by decide)) rfl (fun k u _ h => tauL_any k u h))
                kernel_rfl
              case p9 =>
                intro d us wx hd hJ hp hu hi
                have h8 : us 8 = _ := (hp 8 (by simp [Region.binds])).2
                have cx := (hJ.kept.cell ⟨wr.heap.size, 2, none⟩ hxz hx23).trans (hX5.out.cell 2)
                refine .inl ⟨by kernel_rfl, fun K Q hK => ?_⟩
                simp only [putAll, Act.put, Nat.reduceAdd, h8] at hK ⊢
                go_simp
                refine Eq.mp ?_ (hK (.string x.a) _ (hJ.other 9 (by decide) (by decide) (by decide)) rfl (fun k u _ h => tauL_any k u h))
                kernel_rfl
              case p10 =>
                intro d us wx hd hJ hp hu hi
                have h1 : us 1 = _ := (hp 1 (by simp [Region.binds])).2
                refine .inl ⟨by kernel_rfl, fun K Q hK => ?_⟩
                simp only [putAll, Act.put, Nat.reduceAdd, h1] at hK ⊢
                go_simp
                refine Eq.mp ?_ (hK (.pointer (some ⟨w.heap.size + 1, x.c, none⟩)) _ (hJ.other 10 (by decide) (by decide) (by decide)) rfl (fun k u _ h => tauL_any k u h))
                kernel_rfl
              case p11 =>
                intro d us wx hd hJ hp hu hi
                have h10 : us 10 = _ := (hp 10 (by simp [Region.binds])).2
                have f4 := hJ.atI.frozen x.c
                have c4 := hJ.atI.cell x.c (by omega)
                refine .inl ⟨by kernel_rfl, fun K Q hK => ?_⟩
                simp only [putAll, Act.put, Nat.reduceAdd, h10] at hK ⊢
                go_simp
                refine Eq.mp ?_ (hK (undef) (wx.setCell ⟨w.heap.size + 1, x.c, none⟩ (.bool true)) (hJ.set1 (by decide) (by decide) (by omega) (by omega)) trivial (fun k u _ h => tauL_any k u h))
                kernel_rfl
              case p12 =>
                intro d us wx hd hJ hp hu hi
                have h3 : us 3 = _ := (hp 3 (by simp [Region.binds])).2
                refine .inl ⟨by kernel_rfl, fun K Q hK => ?_⟩
                simp only [putAll, Act.put, Nat.reduceAdd, h3] at hK ⊢
                go_simp
                refine Eq.mp ?_ (hK (.pointer (some ⟨w.heap.size + 1 + 1, x.c, none⟩)) _ (hJ.other 12 (by decide) (by decide) (by decide)) rfl (fun k u _ h => tauL_any k u h))
                kernel_rfl
              case p13 =>
                intro d us wx hd hJ hp hu hi
                have h12 : us 12 = _ := (hp 12 (by simp [Region.binds])).2
                have h7 : us 7 = _ := (hp 7 (by simp [Region.binds])).2
                have f4 := hJ.atN.frozen x.c
                have c4 := hJ.atN.cell x.c (by omega)
                refine .inl ⟨by kernel_rfl, fun K Q hK => ?_⟩
                simp only [putAll, Act.put, Nat.reduceAdd, h12, h7] at hK ⊢
                go_simp
                refine Eq.mp ?_ (hK (undef) (wx.setCell ⟨w.heap.size + 1 + 1, x.c, none⟩ (.int .u64 x.n)) (hJ.set2 (by decide) (by decide) (by omega) (by omega)) trivial (fun k u _ h => tauL_any k u h))
                kernel_rfl
              case p14 =>
                intro d us wx hd hJ hp hu hi
                have h5 : us 5 = _ := (hp 5 (by simp [Region.binds])).2
                refine .inl ⟨by kernel_rfl, fun K Q hK => ?_⟩
                simp only [putAll, Act.put, Nat.reduceAdd, h5] at hK ⊢
                go_simp
                refine Eq.mp ?_ (hK (.pointer (some ⟨w.heap.size + 1 + 1 + 1, x.c, none⟩)) _ (hJ.other 14 (by decide) (by decide) (by decide)) rfl (fun k u _ h => tauL_any k u h))
                kernel_rfl
              case p15 =>
                intro d us wx hd hJ hp hu hi
                have h14 : us 14 = _ := (hp 14 (by simp [Region.binds])).2
                have h9 : us 9 = _ := (hp 9 (by simp [Region.binds])).2
                have f4 := hJ.atT.frozen x.c
                have c4 := hJ.atT.cell x.c (by omega)
                refine .inl ⟨by kernel_rfl, fun K Q hK => ?_⟩
                simp only [putAll, Act.put, Nat.reduceAdd, h14, h9] at hK ⊢
                go_simp
                refine Eq.mp ?_ (hK (undef) (wx.setCell ⟨w.heap.size + 1 + 1 + 1, x.c, none⟩ (.string x.a)) (hJ.set3 (by decide) (by decide) (by omega) (by omega)) trivial (fun k u _ h => tauL_any k u h))
                kernel_rfl
            case n6 =>
              intro d us wq hJ hall
              have d11 := (hall 11 (by simp)).1
              have d13 := (hall 13 (by simp)).1
              have d15 := (hall 15 (by simp)).1
              have hk6 := hJ.kept
              have hz6 := hk6.size
              have hS6 := hS5.out.kept hk6 (by omega) (fun k hk hS => by rcases hS with rfl | rfl | rfl; exact hnI hk; exact hnN hk; exact hnT hk)
              have hX6 := hX5.out.kept hk6 hx23
              have hI6 := (hJ.atI).congr (f' := isV (E ++ [⟨x.c, x.n, x.a.data.toList.take 480⟩])) (fun i => by rw [isV_snoc, d11]; simp)
              have hN6 := (hJ.atN).congr (f' := nV (E ++ [⟨x.c, x.n, x.a.data.toList.take 480⟩])) (fun i => by rw [nV_snoc, d13]; simp)
              have hT6 := (hJ.atT).congr (f' := fun i => if i = x.c then .string x.a else aV E i) (fun i => by rw [d15]; simp)
              have hB6 : Below w.heap.size w wq := hB5.out.trans (hk6.below (fun k hk => by omega) (by omega))
              have x62 := hX6.cell 2
              have x60 := hX6.cell 0
              have x61 := hX6.cell 1
              simp only [putAll, Act.put, Nat.reduceAdd]
              replace hJ := Lib.hid hJ
              replace hS6 := Lib.hid hS6
              replace hB6 := Lib.hid hB6
              clear hall hk6
              have hE2 : ∀ e ∈ E ++ [⟨x.c, x.n, x.a.data.toList.take 480⟩], e.Ok := by
                intro e he
                simp at he
                rcases he with he | rfl
                · exact hE e he
                · exact ⟨xc, by simp only []; omega, by simp only [List.length_take]; omega⟩
              have hsz2 := getL_size (E ++ [⟨x.c, x.n, x.a.data.toList.take 480⟩]) x.c xc hE2
              have hEl2 : (evOps (E ++ [⟨x.c, x.n, x.a.data.toList.take 480⟩])).length ≤ 130 := by simp only [evOps, List.length_map, List.length_append, List.length_singleton] at hEl ⊢; omega
              have hev2 := ask_ev (E ++ [⟨x.c, x.n, x.a.data.toList.take 480⟩]) x.c x.n xc hE2
              rw [lastEv_at, if_pos rfl] at hev2
              simp only [Nat.lt_irrefl, if_false] at hev2
              have hask3 : ∀ (wz : World) (A3 : Option Addr) (c3 : Nat) (qz : Int), 0 ≤ qz → qz ≤ 1000 → ShelfAt wz w.heap.size A3 (evOps (E ++ [⟨x.c, x.n, x.a.data.toList.take 480⟩])) c3 qz → Calls Tryd.prog 9 #[.iface 22 (.pointer (some ⟨w.heap.size, 0, none⟩)), .int .u8 x.c, .int .u64 x.n] wz fun e w' => e = .returned (.tuple #[.string (bs (x.a.data.toList.take 480)), .bool true, .int .i64 0]) ∧ Below wz.heap.size (wz.setCell ⟨w.heap.size, 1, none⟩ (.int .i64 (qz + 1))) w' := by
                intro wz A3 c3 qz hq0 hqz hz
                have := Ask_any w.heap.size A3 (evOps (E ++ [⟨x.c, x.n, x.a.data.toList.take 480⟩])) c3 qz x.c x.n wz hz (by omega) (by omega) (by omega) (by omega) (by omega) (by omega) xn (by rw [Int.toNat_natCast]; exact hsz2)
                rw [Int.toNat_natCast, Int.toNat_natCast, hev2] at this
                exact this
              have hS6' : ShelfOwn wq w.heap.size w.heap.size sv2 (evOps (E ++ [⟨x.c, x.n, x.a.data.toList.take 480⟩])) ((q : Int) + 1 + 1) := by rw [evOps_snoc]; exact hS6.out
              replace hask3 := Lib.hid hask3
              replace hS6' := Lib.hid hS6'
              clear hev2 hsz2
              by_cases hla : x.a.size ≤ 480
              · have hsame : bs (x.a.data.toList.take 480) = x.a := by rw [List.take_of_length_le (by simpa using hla), bs_of]
                have hT7 : ArrAt wq (w.heap.size + 1 + 1 + 1) 48 (aV (E ++ [⟨x.c, x.n, x.a.data.toList.take 480⟩])) := hT6.congr (fun i => by rw [aV_snoc]; simp only []; rw [hsame])
                have t7 := hT7.cell x.c (by omega)
                rw [aV_snoc, if_pos rfl] at t7
                simp only [] at t7
                replace hsame := Lib.hid hsame
                obtain ⟨A7, c7, hA7, hSh7⟩ := hS6'.out.shelf
                have hSN := fun (wv : World) (h : Below wq.heap.size (wq.setCell ⟨w.heap.size, 1, none⟩ (.int .i64 (((q : Int) + 1 + 1) + 1))) wv) => hS6'.out.next h
                replace hSN := Lib.hid hSN
                clear hT6
                replace hA7 := Lib.hid hA7
                go_wp2_with fail
                refine (hask3.out _ A7 c7 ((q : Int) + 1 + 1) (by omega) (by omega) hSh7).mono ?_
                rintro e w8 ⟨rfl, hb8⟩
                have hk8 := KeptBut.of_ask hb8
                have hS8 := hSN.out _ hb8
                have hX8 := hX6.kept hk8 (by omega)
                have hI8 := hI6.kept hk8 (by omega)
                have hN8 := hN6.kept hk8 (by omega)
                have hT8 := hT7.kept hk8 (by omega)
                have hB8 := hB6.out.trans (hk8.below (B := w.heap.size) (fun k hk => by have hk' : k = _ := hk; omega) (by omega))
                have x80 := hX8.cell 0
                have t8 := hT8.cell x.c (by omega)
                rw [aV_snoc, if_pos rfl] at t8
                simp only [] at t8
                replace hk8 := Lib.hid hk8
                clear hb8
                go_wp2_with fail
                exact ⟨⟨k + 1, E ++ [⟨x.c, x.n, x.a.data.toList.take 480⟩], _, q + 1 + 1 + 1, by omega, by go_num, by omega, by simpa using hS8, hI8, hN8, hT8, hE2, by simp; omega, hB8⟩, by simp [intOf]; omega⟩
              · have hcut : x.a.extract 0 480 = bs (x.a.data.toList.take 480) := by rw [ext_bs]; simp
                have hx6l := hX6.lt
                have hgt : ¬ (x.a.size : Int) ≤ 480 := by omega
                go_wp2_with fail
                have hxc := @Ext.cell
                have hxf := @Ext.frozen
                refine wp_hide (fun Q0 hQ0 => ?_)
                refine wp_region_line (fun w' => ∃ x : Ext _, w' = x.w) [some false, some false, some false, some false, some false, some false, none] 0 (by kernel_rfl) (by kernel_rfl) ⟨⟨_, (Below.refl _ _).drew⟩, rfl⟩ ?_
                simp only [earlyL, tailL]
                repeat (first | ((with_reducible refine wpMix_p ?_); go_big_quiet_step (fail); refine wpQuiet_nil ?_) | ((with_reducible refine wpMix_e ?_); go_big_quiet_step ((first | fail)); refine wpQuiet_nil ?_))
                refine wpMix_nil ?_
                clear hxc hxf
                intro wx hwx
                obtain ⟨x, hx⟩ := hwx
                have hb := x.below
                rw [← hx] at hb
                clear hx x
                have hb1 := hb
                replace hb1 := Lib.hid hb1
                have hX7 := hX6.below hb hx6l
                have hT7a := hT6.below hb
                have c7 := hT7a.cell x.c (by omega)
                have f7 := hT7a.frozen x.c
                have hk7 : KeptBut wx (wx.setCell ⟨w.heap.size + 1 + 1 + 1, x.c, none⟩ (.string (bs (x.a.data.toList.take 480)))) (fun b => b = w.heap.size + 1 + 1 + 1) := (KeptBut.refl wx _).then_set rfl
                have hX7 := (hX6.below hb hx6l).kept hk7 (by omega)
                have hI7 := (hI6.below hb).kept hk7 (by omega)
                have hN7 := (hN6.below hb).kept hk7 (by omega)
                have hT7 : ArrAt (wx.setCell ⟨w.heap.size + 1 + 1 + 1, x.c, none⟩ (.string (bs (x.a.data.toList.take 480)))) (w.heap.size + 1 + 1 + 1) 48 (aV (E ++ [⟨x.c, x.n, x.a.data.toList.take 480⟩])) := (hT7a.set x.c (.string (bs (x.a.data.toList.take 480)))).congr (fun i => by rw [aV_snoc]; simp only []; split <;> rfl)
                have hS7 := (hS6'.out.below hb).kept hk7 (by omega) (fun k hk hS => by subst hS; exact hnT hk)
                have hB7 : Below w.heap.size w (wx.setCell ⟨w.heap.size + 1 + 1 + 1, x.c, none⟩ (.string (bs (x.a.data.toList.take 480)))) := (hB6.out.trans (hb.mono (by omega))).trans (hk7.below (fun k hk => by have hk' : k = _ := hk; omega) (by have := hb.size; omega))
                have x70 := hX7.cell 0
                have x71 := hX7.cell 1
                obtain ⟨A7, cc7, hA7, hSh7⟩ := hS7.shelf
                have hx7l := hX7.lt
                replace hX7 := Lib.hid hX7
                replace hI7 := Lib.hid hI7
                replace hN7 := Lib.hid hN7
                replace hT7 := Lib.hid hT7
                replace hS7 := Lib.hid hS7
                replace hB7 := Lib.hid hB7
                replace hSh7 := Lib.hid hSh7
                replace hA7 := Lib.hid hA7
                clear hk7 hS6' hS6 hB6 hX6 hI6 hN6 hT6 hb x62 x60 x61 hT7a
                refine wpTail_step ?_
                intro Q1 hQ1
                go_wp2_with (fail)
                refine hQ1 _ _ rfl (fun h => absurd h (by decide)) ?_
                clear hQ1 Q1
                refine wpTail_nil ?_
                refine hQ0 _ _ ?_
                clear hQ0 Q0
                clear c7 f7
                go_wp2_with fail
                refine (hask3.out _ A7 cc7 ((q : Int) + 1 + 1) (by omega) (by omega) hSh7.out).mono ?_
                rintro e w8 ⟨rfl, hb8⟩
                have hk8 := KeptBut.of_ask hb8
                have hS8 := hS7.out.next hb8
                have hX8 := hX7.out.kept hk8 (by omega)
                have hI8 := hI7.out.kept hk8 (by omega)
                have hN8 := hN7.out.kept hk8 (by omega)
                have hT8 := hT7.out.kept hk8 (by omega)
                have hB8 := hB7.out.trans (hk8.below (B := w.heap.size) (fun k hk => by have hk' : k = _ := hk; omega) (by simp; have := hb1.out.size; omega))
                have x80 := hX8.cell 0
                have t8 := hT8.cell x.c (by omega)
                rw [aV_snoc, if_pos rfl] at t8
                simp only [] at t8
                replace hk8 := Lib.hid hk8
                clear hb8
                go_wp2_with fail
                exact ⟨⟨k + 1, E ++ [⟨x.c, x.n, x.a.data.toList.take 480⟩], _, q + 1 + 1 + 1, by omega, by go_num, by omega, by simpa using hS8, hI8, hN8, hT8, hE2, by simp; omega, hB8⟩, by simp [intOf]; omega⟩
          · rw [if_neg h1] at h
            by_cases h2 : x.n < ev.n
            · rw [if_pos h2] at h
              injection h with e1 e2
              injection e2 with e2 e3
              subst e1 e2 e3
              have d1 : ((ev.n : Int) == (x.n : Int)) = false := by simp; omega
              have d2 : ¬ (ev.n : Int) = (x.n : Int) := by omega
              have d3 : (x.n : Int) < (ev.n : Int) := by omega
              go_wp2_with fail
              go_region
              go_wp2_with fail
              exact ⟨⟨k + 1, E, _, q + 1 + 1, by omega, by go_num, by omega, by simpa using hS3D.out, hI3D.out, hN3D.out, hT3D.out, hE, by omega, hB3D.out⟩, by simp [intOf]; omega⟩
            · rw [if_neg h2] at h
              injection h with e1 e2
              injection e2 with e2 e3
              subst e1 e2 e3
              have d1 : ((ev.n : Int) == (x.n : Int)) = true := by simp; omega
              have d2 : (ev.n : Int) = (x.n : Int) := by omega
              have d3 : ¬ (x.n : Int) < (ev.n : Int) := by omega
              replace d2 := Lib.hid d2
              go_wp2_with fail
              go_region
              go_wp2_with fail
              exact ⟨⟨k + 1, E, _, q + 1 + 1, by omega, by go_num, by omega, by simpa using hS3D.out, hI3D.out, hN3D.out, hT3D.out, hE, by omega, hB3D.out⟩, by simp [intOf]; omega⟩
      · obtain rfl : k = l.length := by omega
        go_wp2_with fail
        refine (awake_any _).mono ?_
        rintro e w1 ⟨rfl, hb1⟩
        go_wp2_with fail
        go_ret
        exact ⟨rfl, hb0.trans (hb1.mono hb0.size)⟩
end Go.Proofs.YtbaobjkhdieapaaDoor
