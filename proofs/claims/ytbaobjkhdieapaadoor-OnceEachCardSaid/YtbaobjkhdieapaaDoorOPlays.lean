/- OncePlays returns true. -/
import Derived.Test.YtbaobjkhdieapaaDoorApp
import Derived.Test.YtbaobjkhdieapaaDoorT
import Derived.Test.YtbaobjkhdieapaaDoorQ
namespace Go.Proofs.YtbaobjkhdieapaaDoor
open Go.RowKit
set_option linter.unusedVariables false
set_option linter.unusedSimpArgs false

/-- The document's list, as the law holds it. -/
def RefAt (w : World) (v : Value) (l : List Last3) (b : Nat) (sv : Value) : Prop := ∃ A cap, v = .slice A l.length cap ∧ Reads w w.heap.size 3 A l.length (lastsV l) ∧ ∀ ad, A = some ad → ad.block ≠ b ∧ sv.ownBlock ≠ some ad.block
structure InOk (x : Act4) : Prop where
  c : x.c ≤ 255
  n : (x.n : Int) ≤ 18446744073709551615
  a : x.a.size ≤ 9223372036854775807

theorem KeptBut.of_ask {w w' : World} {b : Nat} {v : Value} (hb : Below w.heap.size (w.setCell ⟨b, 1, none⟩ v) w') : KeptBut w w' (fun k => k = b) :=
  ⟨hb.os, hb.tape, hb.output, by have := hb.size; simpa [World.setCell] using this, fun k hk hs => (hb.block k hk).trans (Below.heap_setCell _ _ _ _ hs)⟩
theorem Blk.kept {w w' : World} {S : Nat → Prop} {g : Nat} {t : TypeId} {cs : Array Value} (h : Blk w g t cs) (hk : KeptBut w w' S) (hs : ¬ S g) : Blk w' g t cs := (hk.block g h.lt hs).trans h
theorem blk_below {w w' : World} {g : Nat} {t : TypeId} {cs : Array Value} (h : Blk w g t cs) (hb : Below w.heap.size w w') : Blk w' g t cs := (hb.block g h.lt).trans h

/-- What the operations of 's.Ops = append(s.Ops, o)' leave. -/
def pTau (w : World) (B b : Nat) (v0 : Value) (l : List Op3) (o : Op3) : Nat → Value → World → Prop
  | 0, v, _ => v = .pointer (some ⟨b, 0, none⟩)
  | 1, v, _ => v = .pointer (some ⟨b, 0, none⟩)
  | 2, v, _ => v = .pointer (some ⟨b, 0, none⟩)
  | 3, v, _ => v = .pointer (some ⟨b, 0, none⟩)
  | 4, v, _ => v = v0
  | 5, v, _ => v = .agg #[.string o.key, .string o.val, .bool o.gone]
  | 6, v, wx => NewRow w [.string o.key, .string o.val, .bool o.gone] v wx
  | 7, v, wx => GotRow B b (l ++ [o]) v wx
  | 8, v, _ => v = .pointer (some ⟨b, 0, none⟩)
  | 9, v, _ => v = .pointer (some ⟨b, 0, none⟩)
  | _, _, _ => True
theorem pTau_alloc {w : World} {B b : Nat} {v0 : Value} {l : List Op3} {o : Op3} {wx : World} (i : Nat) (u : Value) (h : pTau w B b v0 l o i u wx) (ob : Obj) : pTau w B b v0 l o i u (wx.alloc ob) := by
  unfold pTau at *
  split at h <;> first | exact h | exact NewRow.alloc h ob | exact GotRow.alloc h ob
theorem pTau_grown {w : World} {B b : Nat} {v0 : Value} {l : List Op3} {o : Op3} {wx wy : World} (i : Nat) (u : Value) (h7 : i ≠ 7) (h : pTau w B b v0 l o i u wx) (hg : wx.grownBy wy v0.ownBlock) (hr : ∀ k, v0.ownBlock = some k → k < w.heap.size) : pTau w B b v0 l o i u wy := by
  unfold pTau at *
  split at h <;> first | exact h | exact NewRow.grown h hg hr | exact absurd rfl h7
theorem pTau_set {w : World} {B b : Nat} {v0 : Value} {l : List Op3} {o : Op3} {wx : World} (i : Nat) (u : Value) (h : pTau w B b v0 l o i u wx) (hb : b < w.heap.size) (c : Nat) (z : Value) : pTau w B b v0 l o i u (wx.setCell ⟨b, c, none⟩ z) := by
  unfold pTau at *
  split at h <;> first | exact h | exact NewRow.set h hb | exact GotRow.set h
theorem OwnL.refAt {w : World} {B b : Nat} {v sv : Value} {l : List Last3} (h : OwnL w B v l) (hl : 0 < l.length) (hb : b < B) (hs : ∀ k, sv.ownBlock = some k → k < B) : RefAt w v l b sv := by
  rcases h.2 with ⟨_, h0⟩ | ⟨g, cap, cur, hv, hB, hr⟩
  · omega
  · subst hv
    refine ⟨_, cap, rfl, Reads.of_own h, fun ad e => ?_⟩
    injection e with e
    subst e
    exact ⟨by simp only []; omega, fun e2 => by have := hs _ e2; simp only [] at this; omega⟩

set_option maxRecDepth 100000 in
set_option maxHeartbeats 16000000 in
theorem plays_walk (A : Option Addr) (l : List Act4) (cap : Nat) (w : World) (hr : Reads w w.heap.size 4 A l.length (actsV l)) (hlen : l.length ≤ 9223372036854775807) (hx : ∀ x ∈ l, InOk x) :
    Calls Tryd.prog 4 #[.slice A l.length cap] w fun e w' => e = .returned (.bool true) ∧ Below w.heap.size w w' := by
  obtain ⟨i0, hi0, hz0, hz1, hz2⟩ := info_parts op_info
  go_enter Tryd.func4, Tryd.ntmps4
  go_wp2_with fail
  refine (Great_any A l cap w hr hlen (fun x h => (hx x h).a)).mono ?_
  rintro e w0 ⟨g, rfl, hw, hg⟩
  replace hw := hw.symm
  subst hw
  cases g with
  | true =>
    go_wp2_with fail
    refine (awake_any _).mono ?_
    rintro e w1 ⟨rfl, hb1⟩
    go_wp2_with fail
    go_ret
    exact ⟨rfl, hb1⟩
  | false =>
    obtain ⟨hl120, hl8⟩ := hg rfl
    clear hg hlen
    go_wp2_with fail
    go_loopw [4, 5] (fun v i wr => ∃ (k : Nat) (E : List Ev) (sv : Value), k ≤ l.length ∧ i = .int .i64 k ∧ ShelfOwn wr w.heap.size w.heap.size sv (evOps E) k ∧ RefAt wr v (evRef E) w.heap.size sv ∧ (∀ e ∈ E, e.Ok) ∧ E.length ≤ k ∧ Below w.heap.size w wr) (fun _ i _ => l.length - (intOf i).toNat)
    case atStart => exact ⟨0, [], .slice none 0 0, Nat.zero_le _, rfl, ShelfOwn.new w w.heap.size (Nat.le_refl _), ⟨none, 0, rfl, Reads.none_, fun ad e => by cases e⟩, by simp, Nat.le_refl _, (Below.refl _ _).alloc (Nat.le_refl _) _⟩
    case round =>
      obtain ⟨k, E, sv, hk, rfl, hS, ⟨A', cap', rfl, hR, hRa⟩, hE, hEk, hb0⟩ := hrel
      by_cases hlt : k < l.length
      · obtain ⟨ad, rfl, hab, hcell⟩ := (hr.below hb0).2 (by omega)
        have hx1 := List.getElem?_eq_getElem hlt
        obtain ⟨q0, q1, q2, q3⟩ := actsV_at l k _ hx1
        replace q0 := hcell _ _ q0
        replace q1 := hcell _ _ q1
        replace q2 := hcell _ _ q2
        replace q3 := hcell _ _ q3
        rw [add_pos'] at q1 q2 q3
        obtain ⟨xc, xn, xa⟩ := hx _ (List.getElem_mem hlt)
        have xa8 := hl8 _ (List.getElem_mem hlt)
        replace hx1 := Lib.hid hx1
        generalize l[k] = x at *
        clear hcell
        have hz := hb0.size
        have hbs := hS.lt
        obtain ⟨SA, scap, rfl, hSh⟩ := hS.shelf
        have hsz := getL_size E x.c xc hE
        have hsame := ask_same E x.c x.n xc hE
        have hEl : (evOps E).length ≤ 120 := by simp only [evOps, List.length_map]; omega
        have hRl : (evRef E).length ≤ 120 := by have := evRef_len E; omega
        have hask : ∀ wz, ShelfAt wz w.heap.size SA (evOps E) scap k → Calls Tryd.prog 9 #[.iface 22 (.pointer (some ⟨w.heap.size, 0, none⟩)), .int .u8 x.c, .int .u64 x.n] wz fun e w' => e = .returned (.tuple #[.string (askL (evOps E) x.c x.n).1, .bool (askL (evOps E) x.c x.n).2.1, .int .i64 (askL (evOps E) x.c x.n).2.2]) ∧ Below wz.heap.size (wz.setCell ⟨w.heap.size, 1, none⟩ (.int .i64 ((k : Int) + 1))) w' := by
          intro wz hz
          have := Ask_any w.heap.size SA (evOps E) scap k x.c x.n wz hz (by omega) (by omega) (by omega) (by omega) (by omega) (by omega) xn (by simpa using hsz)
          simpa [outAsk] using this
        have hrask : ∀ wz, Reads wz wz.heap.size 3 A' (evRef E).length (lastsV (evRef E)) → Calls Tryd.prog 12 #[.slice A' (evRef E).length cap', .int .u8 x.c, .int .u64 x.n] wz fun e w' => e = .returned (.tuple #[.string (askL (evOps E) x.c x.n).1, .bool (askL (evOps E) x.c x.n).2.1, .int .i64 (askL (evOps E) x.c x.n).2.2]) ∧ w' = wz := by
          intro wz hz
          rw [← hsame]
          exact RAsk_any A' (evRef E) cap' x.c x.n wz hz (by omega) xc xn (evRef_ok E hE)
        have hkeep : ∀ wz, Calls Tryd.prog 7 #[.int .u8 x.c, .int .u64 x.n, .string x.a] wz fun e w' => e = .returned (.agg #[.string (bs (clientL x.c)), .string (bs (valueL x.n (x.a.data.toList.take 480))), .bool false]) ∧ Below wz.heap.size wz w' := by
          intro wz
          have := Keep_any x.c x.n x.a wz (by omega) (by omega) (by omega) xn (by omega)
          simpa using this
        have hrcl : ∀ wz, Calls Tryd.prog 8 #[.int .u8 x.c] wz fun e w' => e = .returned (.string (bs (clientL x.c))) ∧ Below wz.heap.size wz w' := by
          intro wz
          have := RClient_any x.c wz (by omega) (by omega)
          simpa using this
        rcases hres : askL (evOps E) x.c x.n with ⟨r1, r2, r3⟩
        rw [hres] at hask hrask
        replace hask := Lib.hid hask
        replace hrask := Lib.hid hrask
        replace hkeep := Lib.hid hkeep
        replace hrcl := Lib.hid hrcl
        replace hsame := Lib.hid hsame
        replace hsz := Lib.hid hsz
        have hX1 : Blk (wr.alloc (.cells #[.int .u8 x.c, .int .u64 x.n, .string x.a, .bool x.g] 40)) wr.heap.size 40 #[.int .u8 x.c, .int .u64 x.n, .string x.a, .bool x.g] := Blk.new _ _ _
        have hA1 : Below wr.heap.size wr (wr.alloc (.cells #[.int .u8 x.c, .int .u64 x.n, .string x.a, .bool x.g] 40)) := (Below.refl _ _).alloc (Nat.le_refl _) _
        have hS1 := hS.below hA1
        have hSh1 := hSh.below hA1
        have hR1 := (hR.below hA1).more hA1.size
        replace hX1 := Lib.hid hX1
        replace hS1 := Lib.hid hS1
        replace hSh1 := Lib.hid hSh1
        replace hR1 := Lib.hid hR1
        have hB1 : Below w.heap.size w (wr.alloc (.cells #[.int .u8 x.c, .int .u64 x.n, .string x.a, .bool x.g] 40)) := hb0.trans (hA1.mono hz)
        replace hB1 := Lib.hid hB1
        go_wp2_with fail
        refine (hask.out _ hSh1.out).mono ?_
        rintro e w2 ⟨rfl, hb2⟩
        have hk2 := KeptBut.of_ask hb2
        have hS2 := hS1.out.next hb2
        have hR2 := hk2.reads hR1.out (fun ad e => (hRa ad e).1)
        have hX2 := hX1.out.kept hk2 (by omega)
        have hB2 := hB1.out.trans (hk2.below (B := w.heap.size) (fun k hk => by omega) (by simp; omega))
        have x20 := hX2.cell 0
        have x21 := hX2.cell 1
        have x22 := hX2.cell 2
        replace hk2 := Lib.hid hk2
        have z2 := hX2.lt
        go_wp2_with fail
        refine (hrask.out _ hR2).mono ?_
        rintro e w3 ⟨rfl, hw⟩
        replace hw := hw.symm
        subst hw
        by_cases h480 : 480 < x.a.size
        · have h480' : (480 : Int) < x.a.size := by omega
          have hA : x.a.extract 0 480 = bs (x.a.data.toList.take 480) := by rw [ext_bs]; simp
          have hlast : ∀ wz, Calls Tryd.prog 13 #[.int .u64 x.n, .string (x.a.extract 0 480)] wz fun e w' => e = .returned (.tuple #[.string (bs (valueL x.n (x.a.data.toList.take 480))), .int .i64 0]) ∧ Below wz.heap.size wz w' := by
            intro wz
            have := Last_any x.n (x.a.extract 0 480) wz (by omega) xn (by rw [hA, bs_size, List.length_take]; omega)
            rw [hA, bs_data, Int.toNat_natCast] at this
            rw [hA]
            exact this
          replace hlast := Lib.hid hlast
          replace hA := Lib.hid hA
          go_wp2_with fail
          refine (hkeep.out _).mono ?_
          rintro e w3 ⟨rfl, hb3⟩
          have z3 := hb3.size
          have hX3 := blk_below hX2 hb3
          have hxl3 := hX3.lt
          have x30 := hX3.cell 0
          have x31 := hX3.cell 1
          have x32 := hX3.cell 2
          have hA3 : Below w3.heap.size w3 (w3.alloc (.cells #[.string (bs (clientL x.c)), .string (bs (valueL x.n (x.a.data.toList.take 480))), .bool false] 24)) := (Below.refl _ _).alloc (Nat.le_refl _) _
          have hO3 : Blk (w3.alloc (.cells #[.string (bs (clientL x.c)), .string (bs (valueL x.n (x.a.data.toList.take 480))), .bool false] 24)) w3.heap.size 24 #[.string (bs (clientL x.c)), .string (bs (valueL x.n (x.a.data.toList.take 480))), .bool false] := Blk.new _ _ _
          replace hA3 := Lib.hid hA3
          replace hO3 := Lib.hid hO3
          go_wp2_with fail
          refine (hlast.out _).mono ?_
          rintro e w4 ⟨rfl, hb4⟩
          have hA4 : Below w3.heap.size w3 w4 := hA3.out.trans (hb4.mono hA3.out.size)
          have hA24 : Below w2.heap.size w2 w4 := hb3.trans (hA4.mono z3)
          have hO4 := blk_below hO3.out hb4
          have hX4 := blk_below hX2 hA24
          have x40 := hX4.cell 0
          have x41 := hX4.cell 1
          have x42 := hX4.cell 2
          have o40 := hO4.cell 0
          have o41 := hO4.cell 1
          have o42 := hO4.cell 2
          have hz4 := hA4.size
          have hz24 := hA24.size
          have hol := hO4.lt
          have hxl := hX4.lt
          go_wp2_with fail
          have hxc := @Ext.cell
          refine wp_region_ext (by kernel_rfl) (by kernel_rfl) ?_
          repeat (go_big_quiet_step ((first | (go_at_call 8; exact Calls.ext (hrcl.out _)))))
          refine wpQuiet_nil ?_
          clear hxc
          intro wx hwx
          obtain ⟨x, hx⟩ := hwx
          have hb := x.below
          rw [← hx] at hb
          clear hx x
          obtain ⟨wy, hwy⟩ : ∃ wy, wy = wx := ⟨_, rfl⟩
          subst hwy
          have hA2y : Below w2.heap.size w2 wy := hA24.trans (hb.mono hz24)
          have hSy := hS2.below hA2y
          have hRy := (hR2.below hA2y).more hA2y.size
          have hXy := blk_below hX2 hA2y
          have hOy := blk_below hO4 hb
          have hBy := hB2.trans (hA2y.mono (by have := hB2.size; omega))
          have hrow := hS.row_lt
          have hby := hSy.lt
          have hoy := hOy.lt
          have hxy := hXy.lt
          have y0 := hXy.cell 0
          have y1 := hXy.cell 1
          have y2 := hXy.cell 2
          have hoS : ¬ (w3.heap.size = w.heap.size ∨ (Value.slice SA (evOps E).length scap).ownBlock = some w3.heap.size) := by
            rintro (e | e)
            · omega
            · have := (hrow _ e).2; omega
          replace hSy := Lib.hid hSy
          replace hRy := Lib.hid hRy
          replace hXy := Lib.hid hXy
          replace hOy := Lib.hid hOy
          replace hBy := Lib.hid hBy
          clear hb hA2y hA24 hA4 hb3 hb4 x20 x21 x22 x30 x31 x32 x40 x41 x42 o40 o41 o42 hX2 hX3 hX4 hO4 hS2 hR2 hB2
          cases r2 with
          | true =>
            go_wp2_with fail
            exact ⟨⟨k + 1, E, _, by omega, by go_num, by simpa using hSy.out, ⟨A', cap', rfl, hRy.out, hRa⟩, hE, by omega, hBy.out⟩, by simp [intOf]; omega⟩
          | false =>
            by_cases hr3 : r3 = 0
            · subst hr3
              go_wp2_with fail
              refine wp_region_task (AJ 7 10 wy w.heap.size w.heap.size (.slice SA (evOps E).length scap) (evOps E) (keepOp x.c x.n (x.a.data.toList.take 480)) ((k : Int) + 1)) (pTau wy w.heap.size w.heap.size (.slice SA (evOps E).length scap) (evOps E) (keepOp x.c x.n (x.a.data.toList.take 480))) (usL [u100, u101, u102, u103, u104, u105, u106, u107, u108, u109, undef]) ?m1 ?m2 ?m3 ?m4 (AJ.start hSy.out) ?m5 ?m6
              case m1 => kernel_rfl
              case m2 => kernel_rfl
              case m3 => kernel_rfl
              case m4 => kernel_rfl
              case m5 =>
                refine ⟨?o0, ?o1, ?o2, ?o3, ?o4, ?o5, ?o6, ?o7, ?o8, ?o9, ?o10, trivial⟩
                case o0 =>
                  intro d us wx hd hJ hp hu hi
                  refine .inl ⟨by kernel_rfl, fun K Q hK => ?_⟩
                  simp only [putAll, Act.put, Nat.reduceAdd] at hK ⊢
                  go_simp
                  refine Eq.mp ?_ (hK (.pointer (some ⟨w.heap.size, 0, none⟩)) _ (hJ.other 0 (by decide) (by decide)) rfl (fun _ _ _ h => h))
                  kernel_rfl
                case o1 =>
                  intro d us wx hd hJ hp hu hi
                  refine .inl ⟨by kernel_rfl, fun K Q hK => ?_⟩
                  simp only [putAll, Act.put, Nat.reduceAdd] at hK ⊢
                  go_simp
                  refine Eq.mp ?_ (hK (.pointer (some ⟨w.heap.size, 0, none⟩)) _ (hJ.other 1 (by decide) (by decide)) rfl (fun _ _ _ h => h))
                  kernel_rfl
                case o2 =>
                  intro d us wx hd hJ hp hu hi
                  have h1 : us 1 = _ := (hp 1 (by simp [Region.binds])).2
                  refine .inl ⟨by kernel_rfl, fun K Q hK => ?_⟩
                  simp only [putAll, Act.put, Nat.reduceAdd, h1] at hK ⊢
                  go_simp
                  refine Eq.mp ?_ (hK (.pointer (some ⟨w.heap.size, 0, none⟩)) _ (hJ.other 2 (by decide) (by decide)) rfl (fun _ _ _ h => h))
                  kernel_rfl
                case o3 =>
                  intro d us wx hd hJ hp hu hi
                  have h2 : us 2 = _ := (hp 2 (by simp [Region.binds])).2
                  refine .inl ⟨by kernel_rfl, fun K Q hK => ?_⟩
                  simp only [putAll, Act.put, Nat.reduceAdd, h2] at hK ⊢
                  go_simp
                  refine Eq.mp ?_ (hK (.pointer (some ⟨w.heap.size, 0, none⟩)) _ (hJ.other 3 (by decide) (by decide)) rfl (fun _ _ _ h => h))
                  kernel_rfl
                case o4 =>
                  intro d us wx hd hJ hp hu hi
                  have h3 : us 3 = _ := (hp 3 (by simp [Region.binds])).2
                  have hbx := (hJ.before (hu 10 (by kernel_rfl)).1).trans hSy.out.box
                  have c4 : wx.cell? ⟨w.heap.size, 0, none⟩ = some (.slice SA (evOps E).length scap) := by simp [World.cell?, hbx]
                  refine .inl ⟨by kernel_rfl, fun K Q hK => ?_⟩
                  simp only [putAll, Act.put, Nat.reduceAdd, h3] at hK ⊢
                  go_simp
                  refine Eq.mp ?_ (hK (.slice SA (evOps E).length scap) _ (hJ.other 4 (by decide) (by decide)) rfl (fun _ _ _ h => h))
                  kernel_rfl
                case o5 =>
                  intro d us wx hd hJ hp hu hi
                  have o5 := fun j => (hJ.kept.cell ⟨w3.heap.size, j, none⟩ hoy hoS).trans (hOy.out.cell j)
                  have o50 := o5 0
                  have o51 := o5 1
                  have o52 := o5 2
                  refine .inl ⟨by kernel_rfl, fun K Q hK => ?_⟩
                  simp only [putAll, Act.put, Nat.reduceAdd] at hK ⊢
                  go_simp
                  refine Eq.mp ?_ (hK (.agg #[.string (bs (clientL x.c)), .string (bs (valueL x.n (x.a.data.toList.take 480))), .bool false]) _ (hJ.other 5 (by decide) (by decide)) rfl (fun _ _ _ h => h))
                  kernel_rfl
                case o6 =>
                  intro d us wx hd hJ hp hu hi
                  have h5 : us 5 = _ := (hp 5 (by simp [Region.binds])).2
                  refine .inl ⟨by kernel_rfl, fun K Q hK => ?_⟩
                  simp only [putAll, Act.put, Nat.reduceAdd, h5] at hK ⊢
                  go_simp
                  refine Eq.mp ?_ (hK (.slice (some ⟨wx.heap.size, 0, none⟩) 1 1) (wx.alloc (.cells #[.string (bs (clientL x.c)), .string (bs (valueL x.n (x.a.data.toList.take 480))), .bool false] 24)) (hJ.alloc 6 (by decide) (by decide) (hu 10 (by kernel_rfl)).1 hby _) (NewRow.new _ _ _ _ hJ.kept.size) (fun i u _ h => pTau_alloc i u h _))
                  kernel_rfl
                case o7 =>
                  intro d us wx hd hJ hp hu hi
                  have h4 : us 4 = _ := (hp 4 (by simp [Region.binds])).2
                  obtain ⟨g, h6, hg1, hg2, hg3⟩ := (hp 6 (by simp [Region.binds])).2
                  have hbw : w.heap.size ≤ wx.heap.size := by have := hJ.kept.size; omega
                  refine .inl ⟨by kernel_rfl, fun K Q hK => ?_⟩
                  simp only [putAll, Act.put, Nat.reduceAdd, h4, h6] at hK ⊢
                  refine wp_append_any wx (.tmp 104) (.tmp 106) 28 rfl w.heap.size 24 i0 (.agg #[.string ⟨#[]⟩, .string ⟨#[]⟩, .bool false]) 3 40 Tryd.underlying28 hi0 hz0 hz1 hz2 rfl (by omega) (.slice SA (evOps E).length scap) (evOps E).length (opsV (evOps E)) (by kernel_rfl) (hJ.row hd) (g + 1) (some ⟨g, 0, none⟩) 1 1 [.string (bs (clientL x.c)), .string (bs (valueL x.n (x.a.data.toList.take 480))), .bool false] (by kernel_rfl) hg3 (fun u hu => by simp at hu; rcases hu with rfl | rfl | rfl <;> rfl) (by unfold maxLen; omega) (by omega) hbw ?_
                  intro v2 w2b hown2 hgr2 hat2
                  refine Eq.mp ?_ (hK v2 w2b (hJ.grow (by decide) (hu 10 (by kernel_rfl)).1 hby hSy.out.apart hgr2) (GotRow.of_law (o := keepOp x.c x.n (x.a.data.toList.take 480)) hown2 (by rcases hat2 with e | e <;> rw [e] <;> first | exact hSy.out.apart | (intro e2; injection e2 with e2; have := hJ.kept.size; omega))) (fun i u h7 h => pTau_grown i u h7 h hgr2 (fun k hk => (hSy.out.row_lt k hk).2)))
                  kernel_rfl
                case o8 =>
                  intro d us wx hd hJ hp hu hi
                  have h0 : us 0 = _ := (hp 0 (by simp [Region.binds])).2
                  refine .inl ⟨by kernel_rfl, fun K Q hK => ?_⟩
                  simp only [putAll, Act.put, Nat.reduceAdd, h0] at hK ⊢
                  go_simp
                  refine Eq.mp ?_ (hK (.pointer (some ⟨w.heap.size, 0, none⟩)) _ (hJ.other 8 (by decide) (by decide)) rfl (fun _ _ _ h => h))
                  kernel_rfl
                case o9 =>
                  intro d us wx hd hJ hp hu hi
                  have h8 : us 8 = _ := (hp 8 (by simp [Region.binds])).2
                  refine .inl ⟨by kernel_rfl, fun K Q hK => ?_⟩
                  simp only [putAll, Act.put, Nat.reduceAdd, h8] at hK ⊢
                  go_simp
                  refine Eq.mp ?_ (hK (.pointer (some ⟨w.heap.size, 0, none⟩)) _ (hJ.other 9 (by decide) (by decide)) rfl (fun _ _ _ h => h))
                  kernel_rfl
                case o10 =>
                  intro d us wx hd hJ hp hu hi
                  have h9 : us 9 = _ := (hp 9 (by simp [Region.binds])).2
                  have hgot := (hp 7 (by simp [Region.binds])).2
                  have hda := (hp 7 (by simp [Region.binds])).1
                  have hbx := (hJ.before hd).trans hSy.out.box
                  have c4 : wx.cell? ⟨w.heap.size, 0, none⟩ = some (.slice SA (evOps E).length scap) := by simp [World.cell?, hbx]
                  have f4 : wx.frozen? ⟨w.heap.size, 0, none⟩ = false := by simp [World.frozen?, hbx]
                  obtain ⟨A7, n7, c7, h7⟩ := GotRow.form hgot
                  have hgot2 := h7 ▸ hgot
                  refine .inl ⟨by kernel_rfl, fun K Q hK => ?_⟩
                  simp only [putAll, Act.put, Nat.reduceAdd, h9, h7] at hK ⊢
                  go_simp
                  refine Eq.mp ?_ (hK (undef) (wx.setCell ⟨w.heap.size, 0, none⟩ (.slice A7 n7 c7)) (hJ.store (by decide) hd hda hSy.out hgot2) trivial (fun i u _ h => pTau_set i u h hby 0 _))
                  kernel_rfl
              case m6 =>
                intro d us wz hJ hall
                obtain ⟨sv2, hS5⟩ := hJ.after (hall 10 (by simp)).1
                have hk5 := hJ.kept
                have hz5 := hk5.size
                have hR5 := hk5.reads hRy.out (fun ad e hS => hS.elim (fun e2 => (hRa ad e).1 e2) (fun e2 => (hRa ad e).2 e2))
                have hX5 := hXy.out.kept hk5 (fun hS => hS.elim (fun e => by omega) (fun e => by have := (hrow _ e).2; omega))
                have hB5 : Below w.heap.size w wz := hBy.out.trans (hk5.below (fun k hk => hk.elim (fun e => by omega) (fun e => (hrow _ e).1)) (by omega))
                have y50 := hX5.cell 0
                have y51 := hX5.cell 1
                have y52 := hX5.cell 2
                simp only [putAll, Act.put, Nat.reduceAdd]
                replace hJ := Lib.hid hJ
                replace hS5 := Lib.hid hS5
                replace hB5 := Lib.hid hB5
                clear hall y0 y1 y2
                go_wp2_with fail
                refine (RKeep_any A' (evRef E) cap' x.c x.n x.a wz hR5 (by omega) xc xn (fun o ho => (evRef_ok E hE o ho).1) xa).mono ?_
                rintro e w6 ⟨v6, rfl, ho6, hb6⟩
                go_wp2_with fail
                refine ⟨⟨k + 1, E ++ [⟨x.c, x.n, x.a.data.toList.take 480⟩], sv2, by omega, by go_num, ?_, ?_, ?_, by simp; omega, hB5.out.trans (hb6.mono hB5.out.size)⟩, by simp [intOf]; omega⟩
                · rw [evOps_snoc]
                  simpa using hS5.out.below hb6
                · rw [evRef_snoc]
                  exact ho6.refAt (by unfold rKeepL; simp) (by have := hS5.out.lt; omega) (fun k hk => (hS5.out.row_lt k hk).2)
                · intro e he
                  simp at he
                  rcases he with he | rfl
                  · exact hE e he
                  · exact ⟨xc, by simp only []; omega, by simp only [List.length_take]; omega⟩
            · have hr3' : (r3 == 0) = false := by simpa using hr3
              go_wp2_with fail
              exact ⟨⟨k + 1, E, _, by omega, by go_num, by simpa using hSy.out, ⟨A', cap', rfl, hRy.out, hRa⟩, hE, by omega, hBy.out⟩, by simp [intOf]; omega⟩
        · have h480' : ¬ (480 : Int) < x.a.size := by omega
          have hA : x.a = bs (x.a.data.toList.take 480) := by rw [List.take_of_length_le (by rw [dlen]; omega), bs_of]
          have hlast : ∀ wz, Calls Tryd.prog 13 #[.int .u64 x.n, .string x.a] wz fun e w' => e = .returned (.tuple #[.string (bs (valueL x.n (x.a.data.toList.take 480))), .int .i64 0]) ∧ Below wz.heap.size wz w' := by
            intro wz
            have := Last_any x.n x.a wz (by omega) xn (by omega)
            rw [Int.toNat_natCast] at this
            rw [List.take_of_length_le (by rw [dlen]; omega)]
            exact this
          replace hlast := Lib.hid hlast
          replace hA := Lib.hid hA
          go_wp2_with fail
          refine (hkeep.out _).mono ?_
          rintro e w3 ⟨rfl, hb3⟩
          have z3 := hb3.size
          have hX3 := blk_below hX2 hb3
          have hxl3 := hX3.lt
          have x30 := hX3.cell 0
          have x31 := hX3.cell 1
          have x32 := hX3.cell 2
          have hA3 : Below w3.heap.size w3 (w3.alloc (.cells #[.string (bs (clientL x.c)), .string (bs (valueL x.n (x.a.data.toList.take 480))), .bool false] 24)) := (Below.refl _ _).alloc (Nat.le_refl _) _
          have hO3 : Blk (w3.alloc (.cells #[.string (bs (clientL x.c)), .string (bs (valueL x.n (x.a.data.toList.take 480))), .bool false] 24)) w3.heap.size 24 #[.string (bs (clientL x.c)), .string (bs (valueL x.n (x.a.data.toList.take 480))), .bool false] := Blk.new _ _ _
          replace hA3 := Lib.hid hA3
          replace hO3 := Lib.hid hO3
          go_wp2_with fail
          refine (hlast.out _).mono ?_
          rintro e w4 ⟨rfl, hb4⟩
          have hA4 : Below w3.heap.size w3 w4 := hA3.out.trans (hb4.mono hA3.out.size)
          have hA24 : Below w2.heap.size w2 w4 := hb3.trans (hA4.mono z3)
          have hO4 := blk_below hO3.out hb4
          have hX4 := blk_below hX2 hA24
          have x40 := hX4.cell 0
          have x41 := hX4.cell 1
          have x42 := hX4.cell 2
          have o40 := hO4.cell 0
          have o41 := hO4.cell 1
          have o42 := hO4.cell 2
          have hz4 := hA4.size
          have hz24 := hA24.size
          have hol := hO4.lt
          have hxl := hX4.lt
          go_wp2_with fail
          have hxc := @Ext.cell
          refine wp_region_ext (by kernel_rfl) (by kernel_rfl) ?_
          repeat (go_big_quiet_step ((first | (go_at_call 8; exact Calls.ext (hrcl.out _)))))
          refine wpQuiet_nil ?_
          clear hxc
          intro wx hwx
          obtain ⟨x, hx⟩ := hwx
          have hb := x.below
          rw [← hx] at hb
          clear hx x
          obtain ⟨wy, hwy⟩ : ∃ wy, wy = wx := ⟨_, rfl⟩
          subst hwy
          have hA2y : Below w2.heap.size w2 wy := hA24.trans (hb.mono hz24)
          have hSy := hS2.below hA2y
          have hRy := (hR2.below hA2y).more hA2y.size
          have hXy := blk_below hX2 hA2y
          have hOy := blk_below hO4 hb
          have hBy := hB2.trans (hA2y.mono (by have := hB2.size; omega))
          have hrow := hS.row_lt
          have hby := hSy.lt
          have hoy := hOy.lt
          have hxy := hXy.lt
          have y0 := hXy.cell 0
          have y1 := hXy.cell 1
          have y2 := hXy.cell 2
          have hoS : ¬ (w3.heap.size = w.heap.size ∨ (Value.slice SA (evOps E).length scap).ownBlock = some w3.heap.size) := by
            rintro (e | e)
            · omega
            · have := (hrow _ e).2; omega
          replace hSy := Lib.hid hSy
          replace hRy := Lib.hid hRy
          replace hXy := Lib.hid hXy
          replace hOy := Lib.hid hOy
          replace hBy := Lib.hid hBy
          clear hb hA2y hA24 hA4 hb3 hb4 x20 x21 x22 x30 x31 x32 x40 x41 x42 o40 o41 o42 hX2 hX3 hX4 hO4 hS2 hR2 hB2
          cases r2 with
          | true =>
            go_wp2_with fail
            exact ⟨⟨k + 1, E, _, by omega, by go_num, by simpa using hSy.out, ⟨A', cap', rfl, hRy.out, hRa⟩, hE, by omega, hBy.out⟩, by simp [intOf]; omega⟩
          | false =>
            by_cases hr3 : r3 = 0
            · subst hr3
              go_wp2_with fail
              refine wp_region_task (AJ 7 10 wy w.heap.size w.heap.size (.slice SA (evOps E).length scap) (evOps E) (keepOp x.c x.n (x.a.data.toList.take 480)) ((k : Int) + 1)) (pTau wy w.heap.size w.heap.size (.slice SA (evOps E).length scap) (evOps E) (keepOp x.c x.n (x.a.data.toList.take 480))) (usL [u100, u101, u102, u103, u104, u105, u106, u107, u108, u109, undef]) ?m1 ?m2 ?m3 ?m4 (AJ.start hSy.out) ?m5 ?m6
              case m1 => kernel_rfl
              case m2 => kernel_rfl
              case m3 => kernel_rfl
              case m4 => kernel_rfl
              case m5 =>
                refine ⟨?o0, ?o1, ?o2, ?o3, ?o4, ?o5, ?o6, ?o7, ?o8, ?o9, ?o10, trivial⟩
                case o0 =>
                  intro d us wx hd hJ hp hu hi
                  refine .inl ⟨by kernel_rfl, fun K Q hK => ?_⟩
                  simp only [putAll, Act.put, Nat.reduceAdd] at hK ⊢
                  go_simp
                  refine Eq.mp ?_ (hK (.pointer (some ⟨w.heap.size, 0, none⟩)) _ (hJ.other 0 (by decide) (by decide)) rfl (fun _ _ _ h => h))
                  kernel_rfl
                case o1 =>
                  intro d us wx hd hJ hp hu hi
                  refine .inl ⟨by kernel_rfl, fun K Q hK => ?_⟩
                  simp only [putAll, Act.put, Nat.reduceAdd] at hK ⊢
                  go_simp
                  refine Eq.mp ?_ (hK (.pointer (some ⟨w.heap.size, 0, none⟩)) _ (hJ.other 1 (by decide) (by decide)) rfl (fun _ _ _ h => h))
                  kernel_rfl
                case o2 =>
                  intro d us wx hd hJ hp hu hi
                  have h1 : us 1 = _ := (hp 1 (by simp [Region.binds])).2
                  refine .inl ⟨by kernel_rfl, fun K Q hK => ?_⟩
                  simp only [putAll, Act.put, Nat.reduceAdd, h1] at hK ⊢
                  go_simp
                  refine Eq.mp ?_ (hK (.pointer (some ⟨w.heap.size, 0, none⟩)) _ (hJ.other 2 (by decide) (by decide)) rfl (fun _ _ _ h => h))
                  kernel_rfl
                case o3 =>
                  intro d us wx hd hJ hp hu hi
                  have h2 : us 2 = _ := (hp 2 (by simp [Region.binds])).2
                  refine .inl ⟨by kernel_rfl, fun K Q hK => ?_⟩
                  simp only [putAll, Act.put, Nat.reduceAdd, h2] at hK ⊢
                  go_simp
                  refine Eq.mp ?_ (hK (.pointer (some ⟨w.heap.size, 0, none⟩)) _ (hJ.other 3 (by decide) (by decide)) rfl (fun _ _ _ h => h))
                  kernel_rfl
                case o4 =>
                  intro d us wx hd hJ hp hu hi
                  have h3 : us 3 = _ := (hp 3 (by simp [Region.binds])).2
                  have hbx := (hJ.before (hu 10 (by kernel_rfl)).1).trans hSy.out.box
                  have c4 : wx.cell? ⟨w.heap.size, 0, none⟩ = some (.slice SA (evOps E).length scap) := by simp [World.cell?, hbx]
                  refine .inl ⟨by kernel_rfl, fun K Q hK => ?_⟩
                  simp only [putAll, Act.put, Nat.reduceAdd, h3] at hK ⊢
                  go_simp
                  refine Eq.mp ?_ (hK (.slice SA (evOps E).length scap) _ (hJ.other 4 (by decide) (by decide)) rfl (fun _ _ _ h => h))
                  kernel_rfl
                case o5 =>
                  intro d us wx hd hJ hp hu hi
                  have o5 := fun j => (hJ.kept.cell ⟨w3.heap.size, j, none⟩ hoy hoS).trans (hOy.out.cell j)
                  have o50 := o5 0
                  have o51 := o5 1
                  have o52 := o5 2
                  refine .inl ⟨by kernel_rfl, fun K Q hK => ?_⟩
                  simp only [putAll, Act.put, Nat.reduceAdd] at hK ⊢
                  go_simp
                  refine Eq.mp ?_ (hK (.agg #[.string (bs (clientL x.c)), .string (bs (valueL x.n (x.a.data.toList.take 480))), .bool false]) _ (hJ.other 5 (by decide) (by decide)) rfl (fun _ _ _ h => h))
                  kernel_rfl
                case o6 =>
                  intro d us wx hd hJ hp hu hi
                  have h5 : us 5 = _ := (hp 5 (by simp [Region.binds])).2
                  refine .inl ⟨by kernel_rfl, fun K Q hK => ?_⟩
                  simp only [putAll, Act.put, Nat.reduceAdd, h5] at hK ⊢
                  go_simp
                  refine Eq.mp ?_ (hK (.slice (some ⟨wx.heap.size, 0, none⟩) 1 1) (wx.alloc (.cells #[.string (bs (clientL x.c)), .string (bs (valueL x.n (x.a.data.toList.take 480))), .bool false] 24)) (hJ.alloc 6 (by decide) (by decide) (hu 10 (by kernel_rfl)).1 hby _) (NewRow.new _ _ _ _ hJ.kept.size) (fun i u _ h => pTau_alloc i u h _))
                  kernel_rfl
                case o7 =>
                  intro d us wx hd hJ hp hu hi
                  have h4 : us 4 = _ := (hp 4 (by simp [Region.binds])).2
                  obtain ⟨g, h6, hg1, hg2, hg3⟩ := (hp 6 (by simp [Region.binds])).2
                  have hbw : w.heap.size ≤ wx.heap.size := by have := hJ.kept.size; omega
                  refine .inl ⟨by kernel_rfl, fun K Q hK => ?_⟩
                  simp only [putAll, Act.put, Nat.reduceAdd, h4, h6] at hK ⊢
                  refine wp_append_any wx (.tmp 104) (.tmp 106) 28 rfl w.heap.size 24 i0 (.agg #[.string ⟨#[]⟩, .string ⟨#[]⟩, .bool false]) 3 40 Tryd.underlying28 hi0 hz0 hz1 hz2 rfl (by omega) (.slice SA (evOps E).length scap) (evOps E).length (opsV (evOps E)) (by kernel_rfl) (hJ.row hd) (g + 1) (some ⟨g, 0, none⟩) 1 1 [.string (bs (clientL x.c)), .string (bs (valueL x.n (x.a.data.toList.take 480))), .bool false] (by kernel_rfl) hg3 (fun u hu => by simp at hu; rcases hu with rfl | rfl | rfl <;> rfl) (by unfold maxLen; omega) (by omega) hbw ?_
                  intro v2 w2b hown2 hgr2 hat2
                  refine Eq.mp ?_ (hK v2 w2b (hJ.grow (by decide) (hu 10 (by kernel_rfl)).1 hby hSy.out.apart hgr2) (GotRow.of_law (o := keepOp x.c x.n (x.a.data.toList.take 480)) hown2 (by rcases hat2 with e | e <;> rw [e] <;> first | exact hSy.out.apart | (intro e2; injection e2 with e2; have := hJ.kept.size; omega))) (fun i u h7 h => pTau_grown i u h7 h hgr2 (fun k hk => (hSy.out.row_lt k hk).2)))
                  kernel_rfl
                case o8 =>
                  intro d us wx hd hJ hp hu hi
                  have h0 : us 0 = _ := (hp 0 (by simp [Region.binds])).2
                  refine .inl ⟨by kernel_rfl, fun K Q hK => ?_⟩
                  simp only [putAll, Act.put, Nat.reduceAdd, h0] at hK ⊢
                  go_simp
                  refine Eq.mp ?_ (hK (.pointer (some ⟨w.heap.size, 0, none⟩)) _ (hJ.other 8 (by decide) (by decide)) rfl (fun _ _ _ h => h))
                  kernel_rfl
                case o9 =>
                  intro d us wx hd hJ hp hu hi
                  have h8 : us 8 = _ := (hp 8 (by simp [Region.binds])).2
                  refine .inl ⟨by kernel_rfl, fun K Q hK => ?_⟩
                  simp only [putAll, Act.put, Nat.reduceAdd, h8] at hK ⊢
                  go_simp
                  refine Eq.mp ?_ (hK (.pointer (some ⟨w.heap.size, 0, none⟩)) _ (hJ.other 9 (by decide) (by decide)) rfl (fun _ _ _ h => h))
                  kernel_rfl
                case o10 =>
                  intro d us wx hd hJ hp hu hi
                  have h9 : us 9 = _ := (hp 9 (by simp [Region.binds])).2
                  have hgot := (hp 7 (by simp [Region.binds])).2
                  have hda := (hp 7 (by simp [Region.binds])).1
                  have hbx := (hJ.before hd).trans hSy.out.box
                  have c4 : wx.cell? ⟨w.heap.size, 0, none⟩ = some (.slice SA (evOps E).length scap) := by simp [World.cell?, hbx]
                  have f4 : wx.frozen? ⟨w.heap.size, 0, none⟩ = false := by simp [World.frozen?, hbx]
                  obtain ⟨A7, n7, c7, h7⟩ := GotRow.form hgot
                  have hgot2 := h7 ▸ hgot
                  refine .inl ⟨by kernel_rfl, fun K Q hK => ?_⟩
                  simp only [putAll, Act.put, Nat.reduceAdd, h9, h7] at hK ⊢
                  go_simp
                  refine Eq.mp ?_ (hK (undef) (wx.setCell ⟨w.heap.size, 0, none⟩ (.slice A7 n7 c7)) (hJ.store (by decide) hd hda hSy.out hgot2) trivial (fun i u _ h => pTau_set i u h hby 0 _))
                  kernel_rfl
              case m6 =>
                intro d us wz hJ hall
                obtain ⟨sv2, hS5⟩ := hJ.after (hall 10 (by simp)).1
                have hk5 := hJ.kept
                have hz5 := hk5.size
                have hR5 := hk5.reads hRy.out (fun ad e hS => hS.elim (fun e2 => (hRa ad e).1 e2) (fun e2 => (hRa ad e).2 e2))
                have hX5 := hXy.out.kept hk5 (fun hS => hS.elim (fun e => by omega) (fun e => by have := (hrow _ e).2; omega))
                have hB5 : Below w.heap.size w wz := hBy.out.trans (hk5.below (fun k hk => hk.elim (fun e => by omega) (fun e => (hrow _ e).1)) (by omega))
                have y50 := hX5.cell 0
                have y51 := hX5.cell 1
                have y52 := hX5.cell 2
                simp only [putAll, Act.put, Nat.reduceAdd]
                replace hJ := Lib.hid hJ
                replace hS5 := Lib.hid hS5
                replace hB5 := Lib.hid hB5
                clear hall y0 y1 y2
                go_wp2_with fail
                refine (RKeep_any A' (evRef E) cap' x.c x.n x.a wz hR5 (by omega) xc xn (fun o ho => (evRef_ok E hE o ho).1) xa).mono ?_
                rintro e w6 ⟨v6, rfl, ho6, hb6⟩
                go_wp2_with fail
                refine ⟨⟨k + 1, E ++ [⟨x.c, x.n, x.a.data.toList.take 480⟩], sv2, by omega, by go_num, ?_, ?_, ?_, by simp; omega, hB5.out.trans (hb6.mono hB5.out.size)⟩, by simp [intOf]; omega⟩
                · rw [evOps_snoc]
                  simpa using hS5.out.below hb6
                · rw [evRef_snoc]
                  exact ho6.refAt (by unfold rKeepL; simp) (by have := hS5.out.lt; omega) (fun k hk => (hS5.out.row_lt k hk).2)
                · intro e he
                  simp at he
                  rcases he with he | rfl
                  · exact hE e he
                  · exact ⟨xc, by simp only []; omega, by simp only [List.length_take]; omega⟩
            · have hr3' : (r3 == 0) = false := by simpa using hr3
              go_wp2_with fail
              exact ⟨⟨k + 1, E, _, by omega, by go_num, by simpa using hSy.out, ⟨A', cap', rfl, hRy.out, hRa⟩, hE, by omega, hBy.out⟩, by simp [intOf]; omega⟩
      · obtain rfl : k = l.length := by omega
        go_wp2_with fail
        refine (awake_any _).mono ?_
        rintro e w1 ⟨rfl, hb1⟩
        go_wp2_with fail
        go_ret
        exact ⟨rfl, hb0.trans (hb1.mono hb0.size)⟩
end Go.Proofs.YtbaobjkhdieapaaDoor
