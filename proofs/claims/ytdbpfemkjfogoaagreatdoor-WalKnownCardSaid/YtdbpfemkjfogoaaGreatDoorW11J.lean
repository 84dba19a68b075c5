/- Contracts of the law: goes. -/
import Derived.Test.YtdbpfemkjfogoaaGreatDoorM16
namespace Go.Proofs.YtdbpfemkjfogoaaGreatDoor
open Go.RowKit
set_option linter.unusedVariables false
set_option linter.unusedSimpArgs false
theorem Value.slice_inj {A B : Option Addr} {n m c k : Nat} (h : Value.slice A n c = .slice B m k) : A = B ∧ n = m ∧ c = k := by
  injection h with h1 h2 h3
  exact ⟨h1, h2, h3⟩
theorem GoI.below {X0 X : Nat → Prop} {w wr : World} {d : Nat} {s : Dsk} {tv : Value} {told : List MB} {B : Nat} (h : GoI X0 w wr X d s tv told) (hN : ∀ k, k < B → X0 k) : Below B w wr := h.keep.below hN
theorem boolV_flat : ∀ l : List Bool, boolV l = l.flatMap fun b => [Value.bool b]
  | [] => rfl
  | a :: l => by
    have := boolV_flat l
    unfold boolV at *
    rw [List.map_cons, this]
    rfl
set_option maxRecDepth 100000 in
set_option maxHeartbeats 8000000 in
theorem goes_any {X0 : Nat → Prop} {w : World} {d : Nat} {s : Dsk} {m N0 M : Nat} {r : RM} {l : List LogE} (hX0 : ∀ k, X0 k → k < w.heap.size) (hN : ∀ k, k < N0 → X0 k) (hN7 : 7 ≤ N0) (hNw : N0 ≤ w.heap.size) (hdx : Dx X0 w d s) (hG : Glo w) (g : s.Good m) (hm : m < 10000) (hr : RmOk N0 w r)
    (hops : ∀ x ∈ r.bats, x.b.ops.length ≤ 60) (hlen : r.bats.length ≤ 20) (hln : r.news.length ≤ 20) (hcl : Cl s l) (hoff : s.off = false) (hM : ∀ q ∈ l, q.1 ≤ M) (hMb : M < 10000) :
    Calls Tryz.prog 11 #[.pointer (some ⟨d, 0, none⟩), .agg #[.slice r.BA r.bats.length r.bc, .slice r.NA r.news.length r.nc, .int .i64 r.fuse, .int .i64 r.cr.names, .slice r.KA r.cr.keep.length r.kc, .slice r.PA r.cr.spoil.length r.pc]] w fun e w' => ∃ X tv uv told under, e = .returned (.tuple #[tv, uv]) ∧ GoF X0 w w' X d (goesW s r.fuse r.plain.rows) tv uv told under r.bats (m + 100) := by
  obtain ⟨i0, hi0, hz0, hz1, hz2⟩ := info_parts bat_info
  obtain ⟨o, ho⟩ : ∃ o, o = Obj.cells #[.slice r.BA r.bats.length r.bc, .slice r.NA r.news.length r.nc, .int .i64 r.fuse, .int .i64 r.cr.names, .slice r.KA r.cr.keep.length r.kc, .slice r.PA r.cr.spoil.length r.pc] 36 := ⟨_, rfl⟩
  have hst0 := GoI.start hX0 hdx (.cells #[.slice r.BA r.bats.length r.bc, .slice r.NA r.news.length r.nc, .int .i64 r.fuse, .int .i64 r.cr.names, .slice r.KA r.cr.keep.length r.kc, .slice r.PA r.cr.spoil.length r.pc] 36)
  have hrb0 := Blk.new w 36 #[.slice r.BA r.bats.length r.bc, .slice r.NA r.news.length r.nc, .int .i64 r.fuse, .int .i64 r.cr.names, .slice r.KA r.cr.keep.length r.kc, .slice r.PA r.cr.spoil.length r.pc]
  have hfu := Lib.hid (Fuse_dx hst0.dx hst0.hX r.fuse)
  have hcl1 := hcl.setFuse r.fuse
  have g1 := g.setFuse hr.fuse.1
  have hoff1 : (s.setFuse r.fuse).off = false := hoff
  obtain ⟨R, hR⟩ : ∃ R, goesW s r.fuse r.plain.rows = R := ⟨_, rfl⟩
  rw [hR]
  unfold goesW at hR
  generalize s.setFuse r.fuse = s1 at *
  have hnx := hcl1.nextS g1.ok g1.dir hoff1 hM (by omega)
  have gn : s1.nextW.1.Good (m + 2) := g1.beginW _
  have hpl : r.plain.rows.length = r.bats.length := by rw [rows_len]; simp [RM.plain]
  replace hG := Lib.hid hG
  replace hr := Lib.hid hr
  replace hops := Lib.hid hops
  replace hR := Lib.hid hR
  clear hdx g hcl hoff ho
  go_enter Tryz.func11, Tryz.ntmps11
  go_wp2_with fail
  refine hfu.out.mono ?_
  rintro e w2 ⟨rfl, hD2, hk2⟩
  have hgo2 := hst0.op hD2 hk2
  have hrb2 := hk2.blk hrb0 (.inr rfl)
  have hG2 := hG.out.keeps hgo2.keep (fun k hk => hN k (by omega))
  obtain ⟨hraw, hlw⟩ := hcl1.raws g1.dir hD2.rising hM (by omega)
  have hcall := Lib.hid (next_any hD2 hgo2.hX (fun k hk => hgo2.sub k (hN k (by omega))) hG2 g1 (by omega) hraw (fun n hn => by have := hlw n hn; omega))
  replace hrb2 := Lib.hid hrb2
  replace hgo2 := Lib.hid hgo2
  clear hk2 hD2 hG2
  go_wp2_with fail
  refine hcall.out.mono ?_
  rintro e w3 ⟨hB, hk3⟩
  have hrb3 := hk3.blk hrb2.out (.inr rfl)
  rcases hB with ⟨h0, lg, rfl, hlog3, hlg3, hD3⟩ | ⟨h0, rfl, hD3⟩
  · have hgo3 := hgo2.out.log hD3 hk3 (Blk.lt hlog3)
    have hRR : goW r.plain.rows s1.nextW.1 (nextN s1.logsW) = R := by rw [← hR.out, if_neg (by rw [h0]; decide)]
    have hrun3 : RunS s1.nextW.1 (nextN s1.logsW) (M + 1) := by
      rcases hnx with ⟨_, q⟩ | q
      · exact q
      · rw [h0] at q; cases q
    replace hgo3 := Lib.hid hgo3
    replace hlog3 := Lib.hid hlog3
    replace hrb3 := Lib.hid hrb3
    replace hRR := Lib.hid hRR
    replace hrun3 := Lib.hid hrun3
    clear hk3 hnx
    go_wp2_with fail
    go_loopw [4, 5, 6, 7, 8] (fun tv uv lv ev iv wr => ∃ i : Nat, i ≤ r.bats.length ∧ iv = .int .i64 (i : Nat) ∧
    ((∃ (X : Nat → Prop) (s : Dsk) (n lg M' : Nat) (told : List MB) (e : Nat), GoA X0 w wr X d R tv told r.bats (r.plain.rows.drop i) s n lg w.heap.size M' (m + 4 * i + 4) ∧ Blk wr w.heap.size 36 #[.slice r.BA r.bats.length r.bc, .slice r.NA r.news.length r.nc, .int .i64 r.fuse, .int .i64 r.cr.names, .slice r.KA r.cr.keep.length r.kc, .slice r.PA r.cr.spoil.length r.pc] ∧ lv = .pointer (some ⟨lg, 0, none⟩) ∧ ev = .int .i64 (e : Nat) ∧ e ≠ 7 ∧ uv = .slice none 0 0 ∧ M' ≤ M + 1 + i ∧ told.length ≤ i) ∨
     (ev = .int .i64 7 ∧ Blk wr w.heap.size 36 #[.slice r.BA r.bats.length r.bc, .slice r.NA r.news.length r.nc, .int .i64 r.fuse, .int .i64 r.cr.names, .slice r.KA r.cr.keep.length r.kc, .slice r.PA r.cr.spoil.length r.pc] ∧ ∃ X told under, GoF X0 w wr X d R tv uv told under r.bats (m + 100)))) (fun _ _ _ _ iv _ => r.bats.length - (intOf iv).toNat)
    case atStart =>
      refine ⟨0, Nat.zero_le _, rfl, .inl ⟨_, s1.nextW.1, nextN s1.logsW, lg, M + 1, [], 0, ⟨hgo3.out, hlog3.out, .inr rfl, .inl (.inr rfl), gn.more (by omega), hrun3.out, ?_, fun x hx => nomatch hx⟩, hrb3.out, rfl, rfl, by decide, rfl, by omega, Nat.zero_le _⟩⟩
      rw [List.drop_zero]
      unfold RestW
      rw [hRR.out]
      simp
    case round =>
      obtain ⟨i, hi, rfl, hAB⟩ := hrel
      rcases hAB with ⟨X, s, n, lg', M', told, e, hA, hBA, rfl, rfl, he7, rfl, hM', htl⟩ | ⟨rfl, hBA, X, told, under, hF⟩
      · have he7' : ¬ ((e : Nat) : Int) = 7 := by omega
        have z0 : wr.cell? ⟨w.heap.size, 0, none⟩ = some (.slice r.BA r.bats.length r.bc) := hBA.cell 0
        have zl := hBA.lt
        by_cases hlt : i < r.bats.length
        · have hlt' : (i : Int) < r.bats.length := by omega
          have hxi := List.getElem?_eq_getElem hlt
          have hxa := hr.out.each _ (List.getElem_mem hlt)
          have hx60 := hops.out _ (List.getElem_mem hlt)
          have hrw := rows_at r.plain i (r.bats[i]).b (by show (r.bats.map (·.b))[i]? = _; rw [List.getElem?_map, hxi]; rfl)
          have hnw : r.plain.nw = r.news := rfl
          rw [hnw] at hrw
          generalize r.bats[i] = x at *
          have z1 : wr.cell? ⟨w.heap.size, 1, none⟩ = some (.slice r.NA r.news.length r.nc) := hBA.cell 1
          by_cases hni : i < r.news.length
          · have hni' : (i : Int) < r.news.length := by omega
            have hnb := List.getElem?_eq_getElem hni
            have hgd0 : r.news.getD i false = r.news[i] := by rw [List.getD_eq_getElem?_getD, hnb]; rfl
            rw [hgd0] at hrw
            have hf1 : ∀ b : Bool, ([Value.bool b] : List Value).length = 1 := fun _ => rfl
            have hbf : boolV r.news = r.news.flatMap fun b => [Value.bool b] := boolV_flat _
            have hnr := hr.out.news.below (hA.go.below hN)
            rw [hbf] at hnr
            obtain ⟨nb, no, hNA, hnbl, hncell⟩ := row_at hf1 (by decide) hnr hnb
            have z2 := hncell 0 _ rfl
            rw [Nat.mul_one, Nat.add_zero] at z2
            have hnbw : nb < wr.heap.size := by have := hA.go.keep.size; omega
            rw [hNA] at z1
            replace hNA := Lib.hid hNA
            generalize r.news[i] = bw at *
            clear hnr hncell hbf hf1 hnb hgd0
            cases bw with
            | false =>
              rw [hrw] at hA
              clear z0
              have hbA : Below N0 w wr := hA.go.below hN
              have hGA := hG.out.keeps hA.go.keep (fun k hk => hN k (by omega))
              have hrbA := hBA
              have d0 : wr.cell? ⟨w.heap.size, 0, none⟩ = some (.slice r.BA r.bats.length r.bc) := hrbA.cell 0
              have dl := hrbA.lt
              obtain ⟨bb, oo, hBAe, hbb, hcell⟩ := row_at mbC_len (by decide) (hr.out.bats.below hbA) hxi
              have q0 : wr.cell? ⟨bb, oo + i * 2, none⟩ = some (.int .u64 (x.b.seq : Nat)) := hcell 0 _ rfl
              have q1 : wr.cell? ⟨bb, oo + i * 2 + 1, none⟩ = some x.v := hcell 1 _ rfl
              obtain ⟨xA, xc, hxv, hxr⟩ := (hxa.below hbA (Nat.le_refl _)).at_
              have hbbl : bb < wr.heap.size := by have := hA.go.keep.size; omega
              rw [hxv] at q1
              have hadd := Lib.hid (Add_any hA.go.dx hA.go.hX (fun k hk => hA.go.sub k (hN k (by omega))) hGA hA.good (by omega) (show n < 18446744073709551616 by have := hA.run.num; omega) hA.log hA.xlg x.b.seq xA xc N0 x.b.ops hxa.seq hxr (by have := hA.go.keep.size; omega) (by have := hx60; omega))
              have hst := hA.run.add x.b
              have hgd := hA.good.addW n x.b
              have hrs := hA.rest
              obtain ⟨y, hy⟩ : ∃ y, s.addW n x.b = y := ⟨_, rfl⟩
              rw [show (⟨x.b.seq, x.b.ops⟩ : BatE) = x.b from rfl] at hadd
              rw [hy] at hadd hst hgd
              obtain ⟨s4, e4⟩ := y
              simp only at hadd hst hgd
              replace hA := Lib.hid hA
              replace hBA := Lib.hid hBA
              replace hrs := Lib.hid hrs
              replace hcell := Lib.hid hcell
              replace hy := Lib.hid hy
              replace hxi := Lib.hid hxi
              replace hgd := Lib.hid hgd
              replace hxr := Lib.hid hxr
              clear hrbA hGA
              rw [hBAe] at d0
              replace hBAe := Lib.hid hBAe
              go_wp2_with fail
              refine hadd.out.mono ?_
              rintro e w4 ⟨rfl, hD4, hk4⟩
              have hgo4 := hA.out.go.op hD4 hk4
              have hlog4 : LogAt w4 lg' d n := hk4.blk hA.out.log hA.out.xlg
              have hrb4 := hk4.blk hBA.out hA.out.xrb
              have hb4 : Below N0 w w4 := hgo4.below hN
              have u0 : w4.cell? ⟨w.heap.size, 0, none⟩ = some (.slice r.BA r.bats.length r.bc) := hrb4.cell 0
              have ul := hrb4.lt
              have v0 : w4.cell? ⟨bb, oo + i * 2, none⟩ = some (.int .u64 (x.b.seq : Nat)) := (hk4.cell (hA.out.go.sub bb (hN bb hbb))).trans q0
              have v1 : w4.cell? ⟨bb, oo + i * 2 + 1, none⟩ = some (.slice xA x.b.ops.length xc) := (hk4.cell (hA.out.go.sub bb (hN bb hbb))).trans q1
              have vl : bb < w4.heap.size := by have := hk4.size; omega
              rw [hBAe.out] at u0
              clear q0 q1 d0 hk4 hD4
              rcases hst with ⟨rfl, hrun4⟩ | ⟨h40, h47, rfl⟩ | rfl
              · have hrow4 := own_below2 hgo4.row ((Below.refl w4.heap.size w4).alloc (Nat.le_refl _) (.cells #[.int .u64 (x.b.seq : Nat), .slice xA x.b.ops.length xc] 53))
                obtain ⟨tA, tc, htv⟩ := hgo4.form
                subst htv
                have htl : told.length ≤ 1000 := by omega
                have hws := hgo4.keep.size
                replace hgo4 := Lib.hid hgo4
                replace hlog4 := Lib.hid hlog4
                replace hrb4 := Lib.hid hrb4
                replace hrun4 := Lib.hid hrun4
                replace hb4 := Lib.hid hb4
                go_wp2_with (at_builtin; refine wpList_append_any _ rfl (.tmp 63) (.tmp 69) _ rfl w.heap.size 53 i0 _ 2 32 Tryz.underlying27 hi0 hz0 hz1 hz2 rfl (by omega) _ told.length (mbV told) rfl hrow4 (w4.heap.size + 1) (some ⟨w4.heap.size, 0, none⟩) 1 1 (mbC x) rfl ?c0 ?c1 ?c2 ?c3 ?c4 ?_; rotate_left 5; intro v2 w6 ho6 hg6 hat6; obtain ⟨A2, c2, rfl, hall⟩ := told_arm hgo4.out hX0 ho6 hg6 hat6; clear ho6 hg6 hat6)
                case c0 => have := new_bat w4 53 x; rw [hxv] at this; exact this
                case c1 => intro u hu; simp [mbC] at hu; rcases hu with rfl | rfl; rfl; rw [hxv]; rfl
                case c2 => simp only [maxLen]; omega
                case c3 => omega
                case c4 => simp; omega
                obtain ⟨hgo6, hkb6⟩ := hall.out
                refine ⟨⟨i + 1, by omega, by go_num, .inl ⟨_, s4, n, lg', M + 1 + (i + 1), told ++ [x], 0, ⟨hgo6, hkb6 _ _ _ hlog4.out (by decide), .inl hA.out.xlg, .inl hA.out.xrb, hgd.out.more (by omega), ?_, ?_, ?_⟩, hkb6 _ _ _ hrb4.out (by decide), rfl, rfl, by decide, rfl, by omega, by rw [List.length_append, List.length_singleton]; omega⟩⟩, by simp [intOf]; omega⟩
                · obtain ⟨q1, q2, q3, q4, q5, q6, q7⟩ := hrun4.out
                  exact ⟨q1, q2, q3, q4, q5, q6, fun q hq => by have := q7 q hq; omega⟩
                · have := RestW.step (hrs.out) (by rw [hy.out]; show (0 : Nat) ≠ 7; decide)
                  rw [hy.out, if_pos rfl] at this
                  rw [List.map_append]
                  exact this
                · intro z hz
                  rcases List.mem_append.1 hz with hz | hz
                  · exact hA.out.mem z hz
                  · rw [List.mem_singleton.1 hz]; exact List.mem_of_getElem? hxi.out
              · have h40' : ¬ ((e4 : Nat) : Int) = 0 := by omega
                have h47' : ¬ ((e4 : Nat) : Int) = 7 := by omega
                replace hgo4 := Lib.hid hgo4
                replace hlog4 := Lib.hid hlog4
                replace hrb4 := Lib.hid hrb4
                replace hb4 := Lib.hid hb4
                go_wp2_with fail
                refine ⟨⟨i + 1, by omega, by go_num, .inl ⟨_, _, n, lg', M + 1 + (i + 1), told, e4, ⟨hgo4.out, hlog4.out, hA.out.xlg, hA.out.xrb, hgd.out.more (by omega), ?_, ?_, hA.out.mem⟩, hrb4.out, rfl, rfl, h47, rfl, by omega, by omega⟩⟩, by simp [intOf]; omega⟩
                · obtain ⟨q1, q2, q3, q4, q5, q6, q7⟩ := hA.out.run
                  exact ⟨q1, q2, q3, q4, q5, q6, fun q hq => by have := q7 q hq; omega⟩
                · have := RestW.step (hrs.out) (by rw [hy.out]; exact h47)
                  rw [hy.out, if_neg h40] at this
                  exact this
              · have hws := hgo4.keep.size
                have hrowN := World.ownsRow_nil (w4.alloc (.cells #[.int .u64 (x.b.seq : Nat), .slice xA x.b.ops.length xc] 53)) w.heap.size 53 2
                replace hgo4 := Lib.hid hgo4
                replace hlog4 := Lib.hid hlog4
                replace hrb4 := Lib.hid hrb4
                replace hb4 := Lib.hid hb4
                go_wp2_with (at_builtin; refine wpList_append_any _ rfl (.tmp 73) (.tmp 79) _ rfl w.heap.size 53 i0 _ 2 32 Tryz.underlying27 hi0 hz0 hz1 hz2 rfl (by omega) _ 0 [] rfl hrowN (w4.heap.size + 1) (some ⟨w4.heap.size, 0, none⟩) 1 1 (mbC x) rfl ?c0 ?c1 ?c2 ?c3 ?c4 ?_; rotate_left 5; intro v2 w6 ho6 hg6 hat6; obtain ⟨A2, c2, rfl, hall⟩ := under_arm hgo4.out hws ho6 hg6 hat6; clear ho6 hg6 hat6)
                case c0 => have := new_bat w4 53 x; rw [hxv] at this; exact this
                case c1 => intro u hu; simp [mbC] at hu; rcases hu with rfl | rfl; rfl; rw [hxv]; rfl
                case c2 => simp only [maxLen]; omega
                case c3 => omega
                case c4 => simp; omega
                obtain ⟨hgo6, hrow6, hkb6⟩ := hall.out
                have hfin := RestW.down hrs.out (by rw [hy.out])
                rw [hy.out] at hfin
                refine ⟨⟨i + 1, by omega, by go_num, .inr ⟨rfl, hkb6 _ _ _ hrb4.out, (fun k => X k ∨ (Value.slice A2 1 c2).ownBlock = some k), told, [x], ?_⟩⟩, by simp [intOf]; omega⟩
                rw [hfin]
                exact ⟨hgo6, hrow6, fun k q => .inr q, rfl, rfl, hA.out.mem, (fun z hz => by rw [List.mem_singleton.1 hz]; exact List.mem_of_getElem? hxi.out), hgd.out.more (by omega)⟩
            | true =>
              rw [hrw] at hA
              have hGr := hG.out.keeps hA.go.keep (fun k hk => hN k (by omega))
              obtain ⟨hraw2, hlw2⟩ := hA.run.raws hA.good.dir hA.go.dx.rising (by omega)
              have hnx2 := hA.run.next hA.good.ok hA.good.dir (by omega)
              have hcall2 := Lib.hid (next_any hA.go.dx hA.go.hX (fun k hk => hA.go.sub k (hN k (by omega))) hGr hA.good (by omega) hraw2 (fun n hn => by have := hlw2 n hn; omega))
              have gn2 : s.nextW.1.Good (m + 4 * i + 4 + 2) := hA.good.beginW _
              replace hA := Lib.hid hA
              replace hBA := Lib.hid hBA
              replace hxi := Lib.hid hxi
              replace hrw := Lib.hid hrw
              clear hGr
              go_wp2_with fail
              refine hcall2.out.mono ?_
              rintro e5 w5 ⟨hB5, hk5⟩
              have hrb5 := hk5.blk hBA.out hA.out.xrb
              rcases hB5 with ⟨h05, lg5, rfl, hlog5, hlg5, hD5⟩ | ⟨h05, rfl, hD5⟩
              · have hgo5 := hA.out.go.log hD5 hk5 (Blk.lt hlog5)
                have hA2 : GoA X0 w w5 (fun k => X k ∨ k = lg5) d R u4 told r.bats ((x.b, false) :: r.plain.rows.drop (i + 1)) s.nextW.1 (nextN s.logsW) lg5 w.heap.size (M' + 1) (m + 4 * i + 4 + 2) := by
                  refine ⟨hgo5, hlog5, .inr rfl, .inl hA.out.xrb, gn2, ?_, hA.out.rest.turn (by rw [h05]; decide), hA.out.mem⟩
                  rcases hnx2 with ⟨_, q⟩ | q
                  · exact q
                  · rw [h05] at q; cases q
                clear hA hBA hgo5 hlog5 hD5 hk5 hnx2 hcall2 z0 z1 z2 zl gn2
                have hA := hA2
                have hBA := hrb5
                have hxi2 := hxi.out
                clear hxi
                have hxi := hxi2
                clear hA2 hrb5 hxi2
                have hbA : Below N0 w w5 := hA.go.below hN
                have hGA := hG.out.keeps hA.go.keep (fun k hk => hN k (by omega))
                have hrbA := hBA
                have d0 : w5.cell? ⟨w.heap.size, 0, none⟩ = some (.slice r.BA r.bats.length r.bc) := hrbA.cell 0
                have dl := hrbA.lt
                obtain ⟨bb, oo, hBAe, hbb, hcell⟩ := row_at mbC_len (by decide) (hr.out.bats.below hbA) hxi
                have q0 : w5.cell? ⟨bb, oo + i * 2, none⟩ = some (.int .u64 (x.b.seq : Nat)) := hcell 0 _ rfl
                have q1 : w5.cell? ⟨bb, oo + i * 2 + 1, none⟩ = some x.v := hcell 1 _ rfl
                obtain ⟨xA, xc, hxv, hxr⟩ := (hxa.below hbA (Nat.le_refl _)).at_
                have hbbl : bb < w5.heap.size := by have := hA.go.keep.size; omega
                rw [hxv] at q1
                have hadd := Lib.hid (Add_any hA.go.dx hA.go.hX (fun k hk => hA.go.sub k (hN k (by omega))) hGA hA.good (by omega) (show (nextN s.logsW) < 18446744073709551616 by have := hA.run.num; omega) hA.log hA.xlg x.b.seq xA xc N0 x.b.ops hxa.seq hxr (by have := hA.go.keep.size; omega) (by have := hx60; omega))
                have hst := hA.run.add x.b
                have hgd := hA.good.addW (nextN s.logsW) x.b
                have hrs := hA.rest
                obtain ⟨y, hy⟩ : ∃ y, s.nextW.1.addW (nextN s.logsW) x.b = y := ⟨_, rfl⟩
                rw [show (⟨x.b.seq, x.b.ops⟩ : BatE) = x.b from rfl] at hadd
                rw [hy] at hadd hst hgd
                obtain ⟨s4, e4⟩ := y
                simp only at hadd hst hgd
                replace hA := Lib.hid hA
                replace hBA := Lib.hid hBA
                replace hrs := Lib.hid hrs
                replace hcell := Lib.hid hcell
                replace hy := Lib.hid hy
                replace hxi := Lib.hid hxi
                replace hgd := Lib.hid hgd
                replace hxr := Lib.hid hxr
                clear hrbA hGA
                rw [hBAe] at d0
                replace hBAe := Lib.hid hBAe
                go_wp2_with fail
                refine hadd.out.mono ?_
                rintro e w4 ⟨rfl, hD4, hk4⟩
                have hgo4 := hA.out.go.op hD4 hk4
                have hlog4 : LogAt w4 lg5 d (nextN s.logsW) := hk4.blk hA.out.log hA.out.xlg
                have hrb4 := hk4.blk hBA.out hA.out.xrb
                have hb4 : Below N0 w w4 := hgo4.below hN
                have u0 : w4.cell? ⟨w.heap.size, 0, none⟩ = some (.slice r.BA r.bats.length r.bc) := hrb4.cell 0
                have ul := hrb4.lt
                have v0 : w4.cell? ⟨bb, oo + i * 2, none⟩ = some (.int .u64 (x.b.seq : Nat)) := (hk4.cell (hA.out.go.sub bb (hN bb hbb))).trans q0
                have v1 : w4.cell? ⟨bb, oo + i * 2 + 1, none⟩ = some (.slice xA x.b.ops.length xc) := (hk4.cell (hA.out.go.sub bb (hN bb hbb))).trans q1
                have vl : bb < w4.heap.size := by have := hk4.size; omega
                rw [hBAe.out] at u0
                clear q0 q1 d0 hk4 hD4
                rcases hst with ⟨rfl, hrun4⟩ | ⟨h40, h47, rfl⟩ | rfl
                · have hrow4 := own_below2 hgo4.row ((Below.refl w4.heap.size w4).alloc (Nat.le_refl _) (.cells #[.int .u64 (x.b.seq : Nat), .slice xA x.b.ops.length xc] 53))
                  obtain ⟨tA, tc, htv⟩ := hgo4.form
                  subst htv
                  have htl : told.length ≤ 1000 := by omega
                  have hws := hgo4.keep.size
                  replace hgo4 := Lib.hid hgo4
                  replace hlog4 := Lib.hid hlog4
                  replace hrb4 := Lib.hid hrb4
                  replace hrun4 := Lib.hid hrun4
                  replace hb4 := Lib.hid hb4
                  go_wp2_with (at_builtin; refine wpList_append_any _ rfl (.tmp 63) (.tmp 69) _ rfl w.heap.size 53 i0 _ 2 32 Tryz.underlying27 hi0 hz0 hz1 hz2 rfl (by omega) _ told.length (mbV told) rfl hrow4 (w4.heap.size + 1) (some ⟨w4.heap.size, 0, none⟩) 1 1 (mbC x) rfl ?c0 ?c1 ?c2 ?c3 ?c4 ?_; rotate_left 5; intro v2 w6 ho6 hg6 hat6; obtain ⟨A2, c2, rfl, hall⟩ := told_arm hgo4.out hX0 ho6 hg6 hat6; clear ho6 hg6 hat6)
                  case c0 => have := new_bat w4 53 x; rw [hxv] at this; exact this
                  case c1 => intro u hu; simp [mbC] at hu; rcases hu with rfl | rfl; rfl; rw [hxv]; rfl
                  case c2 => simp only [maxLen]; omega
                  case c3 => omega
                  case c4 => simp; omega
                  obtain ⟨hgo6, hkb6⟩ := hall.out
                  refine ⟨⟨i + 1, by omega, by go_num, .inl ⟨_, s4, (nextN s.logsW), lg5, M + 1 + (i + 1), told ++ [x], 0, ⟨hgo6, hkb6 _ _ _ hlog4.out (by decide), .inl hA.out.xlg, .inl hA.out.xrb, hgd.out.more (by omega), ?_, ?_, ?_⟩, hkb6 _ _ _ hrb4.out (by decide), rfl, rfl, by decide, rfl, by omega, by rw [List.length_append, List.length_singleton]; omega⟩⟩, by simp [intOf]; omega⟩
                  · obtain ⟨q1, q2, q3, q4, q5, q6, q7⟩ := hrun4.out
                    exact ⟨q1, q2, q3, q4, q5, q6, fun q hq => by have := q7 q hq; omega⟩
                  · have := RestW.step (hrs.out) (by rw [hy.out]; show (0 : Nat) ≠ 7; decide)
                    rw [hy.out, if_pos rfl] at this
                    rw [List.map_append]
                    exact this
                  · intro z hz
                    rcases List.mem_append.1 hz with hz | hz
                    · exact hA.out.mem z hz
                    · rw [List.mem_singleton.1 hz]; exact List.mem_of_getElem? hxi.out
                · have h40' : ¬ ((e4 : Nat) : Int) = 0 := by omega
                  have h47' : ¬ ((e4 : Nat) : Int) = 7 := by omega
                  replace hgo4 := Lib.hid hgo4
                  replace hlog4 := Lib.hid hlog4
                  replace hrb4 := Lib.hid hrb4
                  replace hb4 := Lib.hid hb4
                  go_wp2_with fail
                  refine ⟨⟨i + 1, by omega, by go_num, .inl ⟨_, _, (nextN s.logsW), lg5, M + 1 + (i + 1), told, e4, ⟨hgo4.out, hlog4.out, hA.out.xlg, hA.out.xrb, hgd.out.more (by omega), ?_, ?_, hA.out.mem⟩, hrb4.out, rfl, rfl, h47, rfl, by omega, by omega⟩⟩, by simp [intOf]; omega⟩
                  · obtain ⟨q1, q2, q3, q4, q5, q6, q7⟩ := hA.out.run
                    exact ⟨q1, q2, q3, q4, q5, q6, fun q hq => by have := q7 q hq; omega⟩
                  · have := RestW.step (hrs.out) (by rw [hy.out]; exact h47)
                    rw [hy.out, if_neg h40] at this
                    exact this
                · have hws := hgo4.keep.size
                  have hrowN := World.ownsRow_nil (w4.alloc (.cells #[.int .u64 (x.b.seq : Nat), .slice xA x.b.ops.length xc] 53)) w.heap.size 53 2
                  replace hgo4 := Lib.hid hgo4
                  replace hlog4 := Lib.hid hlog4
                  replace hrb4 := Lib.hid hrb4
                  replace hb4 := Lib.hid hb4
                  go_wp2_with (at_builtin; refine wpList_append_any _ rfl (.tmp 73) (.tmp 79) _ rfl w.heap.size 53 i0 _ 2 32 Tryz.underlying27 hi0 hz0 hz1 hz2 rfl (by omega) _ 0 [] rfl hrowN (w4.heap.size + 1) (some ⟨w4.heap.size, 0, none⟩) 1 1 (mbC x) rfl ?c0 ?c1 ?c2 ?c3 ?c4 ?_; rotate_left 5; intro v2 w6 ho6 hg6 hat6; obtain ⟨A2, c2, rfl, hall⟩ := under_arm hgo4.out hws ho6 hg6 hat6; clear ho6 hg6 hat6)
                  case c0 => have := new_bat w4 53 x; rw [hxv] at this; exact this
                  case c1 => intro u hu; simp [mbC] at hu; rcases hu with rfl | rfl; rfl; rw [hxv]; rfl
                  case c2 => simp only [maxLen]; omega
                  case c3 => omega
                  case c4 => simp; omega
                  obtain ⟨hgo6, hrow6, hkb6⟩ := hall.out
                  have hfin := RestW.down hrs.out (by rw [hy.out])
                  rw [hy.out] at hfin
                  refine ⟨⟨i + 1, by omega, by go_num, .inr ⟨rfl, hkb6 _ _ _ hrb4.out, (fun k => (fun k => X k ∨ k = lg5) k ∨ (Value.slice A2 1 c2).ownBlock = some k), told, [x], ?_⟩⟩, by simp [intOf]; omega⟩
                  rw [hfin]
                  exact ⟨hgo6, hrow6, fun k q => .inr q, rfl, rfl, hA.out.mem, (fun z hz => by rw [List.mem_singleton.1 hz]; exact List.mem_of_getElem? hxi.out), hgd.out.more (by omega)⟩
              · have h57 : s.nextW.2 = 7 := by
                  rcases hnx2 with ⟨q, _⟩ | q
                  · exact absurd q h05
                  · exact q
                have hfin := hA.out.rest.fail h57
                have hgo5 := hA.out.go.op hD5 hk5
                rw [h57]
                have hmem := hA.out.mem
                replace hgo5 := Lib.hid hgo5
                replace hrb5 := Lib.hid hrb5
                replace hfin := Lib.hid hfin
                replace h57 := Lib.hid h57
                go_wp2_with fail
                go_ret2
                refine ⟨X, _, _, told, [], rfl, ?_⟩
                rw [hfin.out]
                exact ⟨hgo5.out, World.ownsRow_nil _ _ _ _, (fun k q => by cases q), rfl, rfl, hmem, (fun x hx => by cases hx), gn2.more (by omega)⟩
          · have hni' : ¬ (i : Int) < r.news.length := by omega
            have hgd0 : r.news.getD i false = false := by rw [List.getD_eq_getElem?_getD, List.getElem?_eq_none (by omega)]; rfl
            rw [hgd0] at hrw
            rw [hrw] at hA
            clear hgd0 z0
            have hbA : Below N0 w wr := hA.go.below hN
            have hGA := hG.out.keeps hA.go.keep (fun k hk => hN k (by omega))
            have hrbA := hBA
            have d0 : wr.cell? ⟨w.heap.size, 0, none⟩ = some (.slice r.BA r.bats.length r.bc) := hrbA.cell 0
            have dl := hrbA.lt
            obtain ⟨bb, oo, hBAe, hbb, hcell⟩ := row_at mbC_len (by decide) (hr.out.bats.below hbA) hxi
            have q0 : wr.cell? ⟨bb, oo + i * 2, none⟩ = some (.int .u64 (x.b.seq : Nat)) := hcell 0 _ rfl
            have q1 : wr.cell? ⟨bb, oo + i * 2 + 1, none⟩ = some x.v := hcell 1 _ rfl
            obtain ⟨xA, xc, hxv, hxr⟩ := (hxa.below hbA (Nat.le_refl _)).at_
            have hbbl : bb < wr.heap.size := by have := hA.go.keep.size; omega
            rw [hxv] at q1
            have hadd := Lib.hid (Add_any hA.go.dx hA.go.hX (fun k hk => hA.go.sub k (hN k (by omega))) hGA hA.good (by omega) (show n < 18446744073709551616 by have := hA.run.num; omega) hA.log hA.xlg x.b.seq xA xc N0 x.b.ops hxa.seq hxr (by have := hA.go.keep.size; omega) (by have := hx60; omega))
            have hst := hA.run.add x.b
            have hgd := hA.good.addW n x.b
            have hrs := hA.rest
            obtain ⟨y, hy⟩ : ∃ y, s.addW n x.b = y := ⟨_, rfl⟩
            rw [show (⟨x.b.seq, x.b.ops⟩ : BatE) = x.b from rfl] at hadd
            rw [hy] at hadd hst hgd
            obtain ⟨s4, e4⟩ := y
            simp only at hadd hst hgd
            replace hA := Lib.hid hA
            replace hBA := Lib.hid hBA
            replace hrs := Lib.hid hrs
            replace hcell := Lib.hid hcell
            replace hy := Lib.hid hy
            replace hxi := Lib.hid hxi
            replace hgd := Lib.hid hgd
            replace hxr := Lib.hid hxr
            clear hrbA hGA
            rw [hBAe] at d0
            replace hBAe := Lib.hid hBAe
            go_wp2_with fail
            refine hadd.out.mono ?_
            rintro e w4 ⟨rfl, hD4, hk4⟩
            have hgo4 := hA.out.go.op hD4 hk4
            have hlog4 : LogAt w4 lg' d n := hk4.blk hA.out.log hA.out.xlg
            have hrb4 := hk4.blk hBA.out hA.out.xrb
            have hb4 : Below N0 w w4 := hgo4.below hN
            have u0 : w4.cell? ⟨w.heap.size, 0, none⟩ = some (.slice r.BA r.bats.length r.bc) := hrb4.cell 0
            have ul := hrb4.lt
            have v0 : w4.cell? ⟨bb, oo + i * 2, none⟩ = some (.int .u64 (x.b.seq : Nat)) := (hk4.cell (hA.out.go.sub bb (hN bb hbb))).trans q0
            have v1 : w4.cell? ⟨bb, oo + i * 2 + 1, none⟩ = some (.slice xA x.b.ops.length xc) := (hk4.cell (hA.out.go.sub bb (hN bb hbb))).trans q1
            have vl : bb < w4.heap.size := by have := hk4.size; omega
            rw [hBAe.out] at u0
            clear q0 q1 d0 hk4 hD4
            rcases hst with ⟨rfl, hrun4⟩ | ⟨h40, h47, rfl⟩ | rfl
            · have hrow4 := own_below2 hgo4.row ((Below.refl w4.heap.size w4).alloc (Nat.le_refl _) (.cells #[.int .u64 (x.b.seq : Nat), .slice xA x.b.ops.length xc] 53))
              obtain ⟨tA, tc, htv⟩ := hgo4.form
              subst htv
              have htl : told.length ≤ 1000 := by omega
              have hws := hgo4.keep.size
              replace hgo4 := Lib.hid hgo4
              replace hlog4 := Lib.hid hlog4
              replace hrb4 := Lib.hid hrb4
              replace hrun4 := Lib.hid hrun4
              replace hb4 := Lib.hid hb4
              go_wp2_with (at_builtin; refine wpList_append_any _ rfl (.tmp 63) (.tmp 69) _ rfl w.heap.size 53 i0 _ 2 32 Tryz.underlying27 hi0 hz0 hz1 hz2 rfl (by omega) _ told.length (mbV told) rfl hrow4 (w4.heap.size + 1) (some ⟨w4.heap.size, 0, none⟩) 1 1 (mbC x) rfl ?c0 ?c1 ?c2 ?c3 ?c4 ?_; rotate_left 5; intro v2 w6 ho6 hg6 hat6; obtain ⟨A2, c2, rfl, hall⟩ := told_arm hgo4.out hX0 ho6 hg6 hat6; clear ho6 hg6 hat6)
              case c0 => have := new_bat w4 53 x; rw [hxv] at this; exact this
              case c1 => intro u hu; simp [mbC] at hu; rcases hu with rfl | rfl; rfl; rw [hxv]; rfl
              case c2 => simp only [maxLen]; omega
              case c3 => omega
              case c4 => simp; omega
              obtain ⟨hgo6, hkb6⟩ := hall.out
              refine ⟨⟨i + 1, by omega, by go_num, .inl ⟨_, s4, n, lg', M + 1 + (i + 1), told ++ [x], 0, ⟨hgo6, hkb6 _ _ _ hlog4.out (by decide), .inl hA.out.xlg, .inl hA.out.xrb, hgd.out.more (by omega), ?_, ?_, ?_⟩, hkb6 _ _ _ hrb4.out (by decide), rfl, rfl, by decide, rfl, by omega, by rw [List.length_append, List.length_singleton]; omega⟩⟩, by simp [intOf]; omega⟩
              · obtain ⟨q1, q2, q3, q4, q5, q6, q7⟩ := hrun4.out
                exact ⟨q1, q2, q3, q4, q5, q6, fun q hq => by have := q7 q hq; omega⟩
              · have := RestW.step (hrs.out) (by rw [hy.out]; show (0 : Nat) ≠ 7; decide)
                rw [hy.out, if_pos rfl] at this
                rw [List.map_append]
                exact this
              · intro z hz
                rcases List.mem_append.1 hz with hz | hz
                · exact hA.out.mem z hz
                · rw [List.mem_singleton.1 hz]; exact List.mem_of_getElem? hxi.out
            · have h40' : ¬ ((e4 : Nat) : Int) = 0 := by omega
              have h47' : ¬ ((e4 : Nat) : Int) = 7 := by omega
              replace hgo4 := Lib.hid hgo4
              replace hlog4 := Lib.hid hlog4
              replace hrb4 := Lib.hid hrb4
              replace hb4 := Lib.hid hb4
              go_wp2_with fail
              refine ⟨⟨i + 1, by omega, by go_num, .inl ⟨_, _, n, lg', M + 1 + (i + 1), told, e4, ⟨hgo4.out, hlog4.out, hA.out.xlg, hA.out.xrb, hgd.out.more (by omega), ?_, ?_, hA.out.mem⟩, hrb4.out, rfl, rfl, h47, rfl, by omega, by omega⟩⟩, by simp [intOf]; omega⟩
              · obtain ⟨q1, q2, q3, q4, q5, q6, q7⟩ := hA.out.run
                exact ⟨q1, q2, q3, q4, q5, q6, fun q hq => by have := q7 q hq; omega⟩
              · have := RestW.step (hrs.out) (by rw [hy.out]; exact h47)
                rw [hy.out, if_neg h40] at this
                exact this
            · have hws := hgo4.keep.size
              have hrowN := World.ownsRow_nil (w4.alloc (.cells #[.int .u64 (x.b.seq : Nat), .slice xA x.b.ops.length xc] 53)) w.heap.size 53 2
              replace hgo4 := Lib.hid hgo4
              replace hlog4 := Lib.hid hlog4
              replace hrb4 := Lib.hid hrb4
              replace hb4 := Lib.hid hb4
              go_wp2_with (at_builtin; refine wpList_append_any _ rfl (.tmp 73) (.tmp 79) _ rfl w.heap.size 53 i0 _ 2 32 Tryz.underlying27 hi0 hz0 hz1 hz2 rfl (by omega) _ 0 [] rfl hrowN (w4.heap.size + 1) (some ⟨w4.heap.size, 0, none⟩) 1 1 (mbC x) rfl ?c0 ?c1 ?c2 ?c3 ?c4 ?_; rotate_left 5; intro v2 w6 ho6 hg6 hat6; obtain ⟨A2, c2, rfl, hall⟩ := under_arm hgo4.out hws ho6 hg6 hat6; clear ho6 hg6 hat6)
              case c0 => have := new_bat w4 53 x; rw [hxv] at this; exact this
              case c1 => intro u hu; simp [mbC] at hu; rcases hu with rfl | rfl; rfl; rw [hxv]; rfl
              case c2 => simp only [maxLen]; omega
              case c3 => omega
              case c4 => simp; omega
              obtain ⟨hgo6, hrow6, hkb6⟩ := hall.out
              have hfin := RestW.down hrs.out (by rw [hy.out])
              rw [hy.out] at hfin
              refine ⟨⟨i + 1, by omega, by go_num, .inr ⟨rfl, hkb6 _ _ _ hrb4.out, (fun k => X k ∨ (Value.slice A2 1 c2).ownBlock = some k), told, [x], ?_⟩⟩, by simp [intOf]; omega⟩
              rw [hfin]
              exact ⟨hgo6, hrow6, fun k q => .inr q, rfl, rfl, hA.out.mem, (fun z hz => by rw [List.mem_singleton.1 hz]; exact List.mem_of_getElem? hxi.out), hgd.out.more (by omega)⟩
        · obtain rfl : i = r.bats.length := by omega
          have hd0 : r.plain.rows.drop r.bats.length = [] := List.drop_of_length_le (by omega)
          rw [hd0] at hA
          have hfin := hA.rest.done
          replace hA := Lib.hid hA
          replace hfin := Lib.hid hfin
          replace hBA := Lib.hid hBA
          replace hd0 := Lib.hid hd0
          go_wp2_with fail
          go_ret2
          refine ⟨X, _, _, told, [], rfl, ?_⟩
          rw [hfin.out]
          exact ⟨hA.out.go, World.ownsRow_nil _ _ _ _, (fun k q => by cases q), rfl, rfl, hA.out.mem, (fun x hx => by cases hx), hA.out.good.more (by omega)⟩
      · have z0 : wr.cell? ⟨w.heap.size, 0, none⟩ = some (.slice r.BA r.bats.length r.bc) := hBA.cell 0
        have zl := hBA.lt
        replace hF := Lib.hid hF
        replace hBA := Lib.hid hBA
        by_cases hlt : i < r.bats.length
        · have hlt' : (i : Int) < r.bats.length := by omega
          go_wp2_with fail
          go_ret2
          first | exact ⟨X, _, _, told, under, rfl, hF.out⟩ | exact ⟨X, _, _, rfl, told, under, hF.out⟩
        · have hlt' : ¬ (i : Int) < r.bats.length := by omega
          go_wp2_with fail
          go_ret2
          first | exact ⟨X, _, _, told, under, rfl, hF.out⟩ | exact ⟨X, _, _, rfl, told, under, hF.out⟩
  · have h57 : s1.nextW.2 = 7 := by
      rcases hnx with ⟨q, _⟩ | q
      · exact absurd q h0
      · exact q
    have hfin : R = (s1.nextW.1, [], []) := by rw [← hR.out, if_pos h57]
    have hgo3 := hgo2.out.op hD3 hk3
    have hF : GoF X0 w w3 (fun k => X0 k ∨ k = w.heap.size) d R (.slice none 0 0) (.slice none 0 0) [] [] r.bats (m + 100) := by
      rw [hfin]
      exact ⟨hgo3, World.ownsRow_nil _ _ _ _, (fun k q => by cases q), rfl, rfl, (fun x hx => by cases hx), (fun x hx => by cases hx), gn.more (by omega)⟩
    rw [h57]
    replace hfin := Lib.hid hfin
    replace hgo3 := Lib.hid hgo3
    replace hrb3 := Lib.hid hrb3
    replace hF := Lib.hid hF
    replace h57 := Lib.hid h57
    clear hk3 hnx hD3
    go_wp2_with fail
    go_loopw [4, 5, 6, 7, 8] (fun tv uv lv ev iv wr => tv = .slice none 0 0 ∧ uv = .slice none 0 0 ∧ ev = .int .i64 7 ∧ iv = .int .i64 0 ∧ wr = w3) (fun _ _ _ _ _ _ => 0)
    case atStart => exact ⟨rfl, rfl, rfl, rfl, rfl⟩
    case round =>
      obtain ⟨rfl, rfl, rfl, rfl, rfl⟩ := hrel
      have z0 : wr.cell? ⟨w.heap.size, 0, none⟩ = some (.slice r.BA r.bats.length r.bc) := hrb3.out.cell 0
      have zl := hrb3.out.lt
      by_cases hlt : 0 < r.bats.length
      · have hlt' : (0 : Int) < r.bats.length := by omega
        go_wp2_with fail
        go_ret2
        first | exact ⟨_, _, _, [], [], rfl, hF.out⟩ | exact ⟨_, _, _, rfl, [], [], hF.out⟩
      · have hlt' : ¬ (0 : Int) < r.bats.length := by omega
        go_wp2_with fail
        go_ret2
        first | exact ⟨_, _, _, [], [], rfl, hF.out⟩ | exact ⟨_, _, _, rfl, [], [], hF.out⟩
end Go.Proofs.YtdbpfemkjfogoaaGreatDoor
