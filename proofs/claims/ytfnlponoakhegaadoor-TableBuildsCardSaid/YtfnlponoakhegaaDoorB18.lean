/- block: Len, At. block: Seek. table.Table in memory; May. -/
import Derived.Test.YtfnlponoakhegaaDoorTBOJ
import Derived.Test.YtfnlponoakhegaaDoorB01
import Derived.Laws.EntriesVeiled
import Derived.Test.YtfnlponoakhegaaDoorB04
import Derived.Test.YtfnlponoakhegaaDoorB12
namespace Go.Proofs.YtfnlponoakhegaaDoor
open Go.RowKit
set_option linter.unusedVariables false
set_option linter.unusedSimpArgs false
set_option maxRecDepth 100000 in
set_option maxHeartbeats 4000000 in
theorem Len_any {w : World} {gx : Nat} {es : List (L × L)} (h : BkAt w gx es) :
    Calls Tryd.prog 38 #[.pointer (some ⟨gx, 0, none⟩)] w fun e w' => e = .returned (.int .i64 es.length) ∧ Below w.heap.size w w' := by
  obtain ⟨A, cap, hX, hr, hv, hl1, hl2⟩ := h
  have c2 : w.cell? ⟨gx, 2, none⟩ = some (.int .i64 es.length) := hX.cell 2
  have hlt := hX.lt
  go_enter Tryd.func38, Tryd.ntmps38
  go_wp2_with fail
  go_ret
  exact ⟨rfl, Below.refl _ _⟩
def AtV (o : Option (L × L)) : Value := match o with
  | some (k, v) => .tuple #[.string (bs k), .string (bs v), .bool true]
  | none => .tuple #[.string ⟨#[]⟩, .string ⟨#[]⟩, .bool false]
set_option maxRecDepth 100000 in
set_option maxHeartbeats 4000000 in
theorem At_none {w : World} {gx : Nat} {es : List (L × L)} (h : BkAt w gx es) (i : Nat) (hi : es.length ≤ i) (hi2 : i ≤ 4611686018427387904) :
    Calls Tryd.prog 35 #[.pointer (some ⟨gx, 0, none⟩), .int .i64 (i : Nat)] w fun e w' => e = .returned (AtV none) ∧ Below w.heap.size w w' := by
  have h0 : ¬ (i : Int) < 0 := by omega
  have h1 : (es.length : Int) ≤ i := by omega
  have hlen := Lib.hid (Len_any h)
  go_enter Tryd.func35, Tryd.ntmps35
  go_wp2_with fail
  refine hlen.out.mono ?_
  rintro e w1 ⟨rfl, hb1⟩
  go_wp2_with fail
  go_ret3
  exact ⟨rfl, hb1⟩
set_option maxRecDepth 100000 in
set_option maxHeartbeats 4000000 in
theorem At_some {w : World} {gx : Nat} {es : List (L × L)} (h : BkAt w gx es) (i : Nat) (k v : L) (hi : es[i]? = some (k, v)) :
    Calls Tryd.prog 35 #[.pointer (some ⟨gx, 0, none⟩), .int .i64 (i : Nat)] w fun e w' => e = .returned (AtV (some (k, v))) ∧ Below w.heap.size w w' := by
  have hlen := Lib.hid (Len_any h)
  have hh := h
  obtain ⟨A, cap, hX, hr, hv, hl1, hl2⟩ := h
  have hil : i < es.length := (List.getElem?_eq_some_iff.1 hi).1
  have h0 : ¬ (i : Int) < 0 := by omega
  have h1 : ¬ (es.length : Int) ≤ i := by omega
  have h1d : decide (es.length ≤ i) = false := by simp; omega
  have c0 : w.cell? ⟨gx, 0, none⟩ = some (.string (bs (foldB es).b)) := hX.cell 0
  have c1 : w.cell? ⟨gx, 1, none⟩ = some (.slice A (foldB es).starts.length cap) := hX.cell 1
  have hlt := hX.lt
  have hsl := foldB_starts es
  have hj : i / 4 < (foldB es).starts.length := by omega
  have hst := starts_at (es := es) (i / 4) (by omega)
  obtain ⟨ad, u, rfl, hadB, hu, hcell⟩ := hr.at_ hj
  rw [List.getElem?_map, hst] at hu
  injection hu with hu
  subst hu
  obtain ⟨ad0, u0, e0, _, _, hc0⟩ := hr.at_ (k := 0) (by omega)
  injection e0 with e0
  subst e0
  obtain ⟨bb, oo, rfl⟩ := plain_cell hc0
  clear hc0
  rw [add_off] at hcell
  have hj4 : (i : Int) / 4 = ((i / 4 : Nat) : Int) := by omega
  have hm4 : (i : Int) % 4 = ((i % 4 : Nat) : Int) := by omega
  have hmm : 4 * (i / 4) + i % 4 = i := by omega
  have hm44 : i % 4 < 4 := by omega
  generalize hjj : i / 4 = j at *
  generalize hrr : i % 4 = r at *
  have hps : posB es (4 * j) ≤ 1048576 := Nat.le_trans (posB_len es _) hl2
  replace hv := Lib.hid hv
  clear hh
  replace hi := Lib.hid hi
  replace hst := Lib.hid hst
  replace hjj := Lib.hid hjj
  replace hrr := Lib.hid hrr
  clear hr hX
  have hadB' : bb < w.heap.size := hadB
  have hjI : ((j : Nat) : Int) < ((foldB es).starts.length : Nat) := by omega
  go_enter Tryd.func35, Tryd.ntmps35
  go_wp2_with fail
  refine hlen.out.mono ?_
  rintro e w1 ⟨rfl, hb1⟩
  have d0 := (hb1.cell (p := ⟨gx, 0, none⟩) hlt).trans c0
  have d1 := (hb1.cell (p := ⟨gx, 1, none⟩) hlt).trans c1
  have d2 := (hb1.cell (p := ⟨bb, oo + j, none⟩) hadB').trans hcell
  have hz1 := hb1.size
  go_wp2_with fail
  have hmm' := Lib.hid hmm
  clear hj4 hm4 hjI hj
  replace hsl := Lib.hid hsl
  go_loopw [5, 7, 8, 28] (fun vv kv av xv wr => ∃ x ky, x ≤ r + 1 ∧ xv = .int .i64 (x : Nat) ∧ av = .int .i64 (posB es (4 * j + x) : Nat) ∧ RdB wr kv ky ∧ (0 < x → ∃ vl, es[4 * j + x - 1]? = some (ky, vl) ∧ vv = .string (bs vl)) ∧ ky.length ≤ 1024 ∧ Below w.heap.size w wr) (fun _ _ _ xv _ => r + 1 - (intOf xv).toNat)
  case atStart => exact ⟨0, [], Nat.zero_le _, rfl, rfl, RdB.nil _, fun h => absurd h (by omega), by simp, hb1⟩
  case round =>
    obtain ⟨x, ky, hx, rfl, rfl, hkv, hval, hky, hbr⟩ := hrel
    obtain ⟨Ak, ck, rfl, _, _⟩ := hkv.form
    have hzr := hbr.size
    by_cases hlx : x < r + 1
    · have hlx' : (x : Int) < r + 1 := by omega
      have hil2 : 4 * j + x < es.length := by omega
      obtain ⟨k1, v1, he⟩ : ∃ k v, es[4 * j + x]? = some (k, v) := ⟨es[4 * j + x].1, es[4 * j + x].2, List.getElem?_eq_getElem hil2⟩
      have hnx := next_at hv.out he ky (fun hm => by
        have hx0 : 0 < x := by omega
        obtain ⟨vl, h1, _⟩ := hval hx0
        exact ⟨(ky, vl), h1, rfl⟩)
      have hpb : posB es (4 * j + x) ≤ (foldB es).b.length := posB_len es _
      have hcall := next_any (bs (foldB es).b) (posB es (4 * j + x)) (.slice Ak ky.length ck) ky wr hkv (by rw [bs_size]; exact hpb) (by rw [bs_size]; omega) (by omega)
      rw [bs_data, hnx] at hcall
      obtain ⟨hk1, hv1⟩ := err_len (hv.out _ _ _ he)
      have e0 := (hbr.cell (p := ⟨gx, 0, none⟩) hlt).trans c0
      replace hcall := Lib.hid hcall
      replace hnx := Lib.hid hnx
      replace he := Lib.hid he
      replace hval := Lib.hid hval
      go_wp2_with fail
      refine hcall.out.mono ?_
      rintro e w3 ⟨⟨kv1, rfl, hr1, _⟩, hb3⟩
      go_wp2_with fail
      refine ⟨⟨x + 1, k1, by omega, by go_num, rfl, hr1, fun _ => ⟨v1, he.out, rfl⟩, hk1, hbr.trans (hb3.mono hzr)⟩, by first | omega | (simp only [intOf]; omega)⟩
    · obtain rfl : x = r + 1 := by omega
      have hlx' : ¬ ((r : Int) + 1 < r + 1) := by omega
      obtain ⟨vl, h1, rfl⟩ := hval (by omega)
      have hie : 4 * j + (r + 1) - 1 = i := by omega
      rw [hie, hi.out] at h1
      injection h1 with h1
      injection h1 with h1 h2
      subst h1 h2
      have htx := hkv.text
      go_wp2_with fail
      go_ret3
      exact ⟨rfl, hbr⟩
/-- What Seek's closures see. -/
structure SkAt (w : World) (gx c1 c2 c3 : Nat) (es : List (L × L)) (key : L) : Prop where
  bk : BkAt w gx es
  p1 : w.cell? ⟨c1, 0, none⟩ = some (.pointer (some ⟨gx, 0, none⟩))
  p2 : w.cell? ⟨c2, 0, none⟩ = some (.string (bs key))
  p3 : w.cell? ⟨c3, 0, none⟩ = some (.func (.func 56) #[] #[.pointer (some ⟨c1, 0, none⟩), .pointer (some ⟨c2, 0, none⟩)])
theorem SkAt.below {w w' : World} {gx c1 c2 c3 : Nat} {es : List (L × L)} {key : L} (h : SkAt w gx c1 c2 c3 es key) (hb : Below w.heap.size w w') : SkAt w' gx c1 c2 c3 es key :=
  ⟨h.bk.below hb, (hb.cell (p := ⟨c1, 0, none⟩) (cell_lt h.p1)).trans h.p1, (hb.cell (p := ⟨c2, 0, none⟩) (cell_lt h.p2)).trans h.p2, (hb.cell (p := ⟨c3, 0, none⟩) (cell_lt h.p3)).trans h.p3⟩
set_option maxRecDepth 100000 in
set_option maxHeartbeats 4000000 in
theorem below_any {w : World} {gx c1 c2 c3 : Nat} {es : List (L × L)} {key : L} (h : SkAt w gx c1 c2 c3 es key) (i : Nat) (hi : i ≤ 4611686018427387904) :
    Calls Tryd.prog 56 #[.int .i64 (i : Nat), .pointer (some ⟨c1, 0, none⟩), .pointer (some ⟨c2, 0, none⟩)] w fun e w' => e = .returned (.bool (belowP es key i)) ∧ Below w.heap.size w w' := by
  have p1 := h.p1
  have p2 := h.p2
  have l1 := cell_lt p1
  have l2 := cell_lt p2
  rcases he : es[i]? with _ | ⟨k, v⟩
  · have hB : belowP es key i = false := by unfold belowP; rw [he]
    have hat := Lib.hid (At_none h.bk i (by
      rcases Nat.lt_or_ge i es.length with h' | h'
      · rw [List.getElem?_eq_getElem h'] at he; cases he
      · exact h') hi)
    replace he := Lib.hid he
    rw [hB]
    go_enter Tryd.func56, Tryd.ntmps56
    go_wp2_with fail
    refine hat.out.mono ?_
    rintro e w1 ⟨rfl, hb1⟩
    unfold AtV
    go_wp2_with fail
    go_ret
    exact ⟨rfl, hb1⟩
  · have hB : belowP es key i = lessL k key := by unfold belowP; rw [he]
    have hat := Lib.hid (At_some h.bk i k v he)
    have hll : Op.bytesLess (bs k).toList (bs key).toList = lessL k key := by rw [bs_toList, bs_toList]; rfl
    replace he := Lib.hid he
    rw [hB]
    go_enter Tryd.func56, Tryd.ntmps56
    go_wp2_with fail
    refine hat.out.mono ?_
    rintro e w1 ⟨rfl, hb1⟩
    have q2 := (hb1.cell (p := ⟨c2, 0, none⟩) l2).trans p2
    have hz := hb1.size
    unfold AtV
    go_wp2_with fail
    go_ret
    exact ⟨rfl, hb1⟩
set_option maxRecDepth 100000 in
set_option maxHeartbeats 4000000 in
theorem notbelow_any {w : World} {gx c1 c2 c3 : Nat} {es : List (L × L)} {key : L} (h : SkAt w gx c1 c2 c3 es key) (r : Nat) (hr : r ≤ 1099511627776) :
    Calls Tryd.prog 58 #[.int .i64 (r : Nat), .pointer (some ⟨c3, 0, none⟩)] w fun e w' => e = .returned (.bool (!belowP es key (r * 4))) ∧ Below w.heap.size w w' := by
  have p3 := h.p3
  have l3 := cell_lt p3
  obtain ⟨q, hq⟩ : ∃ q, q = r * 4 := ⟨_, rfl⟩
  rw [← hq]
  have hb := Lib.hid (below_any h q (by omega))
  have hr4 : ((r : Int) * 4) = ((q : Nat) : Int) := by omega
  replace hq := Lib.hid hq
  go_enter Tryd.func58, Tryd.ntmps58
  go_wp2_with fail
  refine hb.out.mono ?_
  rintro e w1 ⟨rfl, hb1⟩
  go_wp2_with fail
  go_ret
  exact ⟨rfl, hb1⟩
set_option maxRecDepth 100000 in
set_option maxHeartbeats 4000000 in
/-- sort.Search over Seek's closure. -/
theorem Search_any {w : World} {gx c1 c2 c3 : Nat} {es : List (L × L)} {key : L} (h : SkAt w gx c1 c2 c3 es key) (n : Nat) (hn : n ≤ 1048576) :
    Calls Tryd.prog 57 #[.int .i64 (n : Nat), .func (.func 58) #[] #[.pointer (some ⟨c3, 0, none⟩)]] w fun e w' => (∃ r : Nat, e = .returned (.int .i64 (r : Nat)) ∧ r ≤ n ∧ (0 < r → belowP es key ((r - 1) * 4) = true)) ∧ Below w.heap.size w w' := by
  go_enter Tryd.func57, Tryd.ntmps57
  go_wp2_with fail
  go_loopw [5, 6] (fun lo hi wr => ∃ a b : Nat, lo = .int .i64 (a : Nat) ∧ hi = .int .i64 (b : Nat) ∧ a ≤ b ∧ b ≤ n ∧ (0 < a → belowP es key ((a - 1) * 4) = true) ∧ Below w.heap.size w wr) (fun lo hi _ => (intOf hi).toNat - (intOf lo).toNat)
  case atStart => exact ⟨0, n, rfl, rfl, Nat.zero_le _, Nat.le_refl _, fun h => absurd h (by omega), Below.refl _ _⟩
  case round =>
    obtain ⟨a, b, rfl, rfl, hab, hbn, hlo, hbr⟩ := hrel
    have hlo' := Lib.hid hlo
    clear hlo
    by_cases hlt : a < b
    · have hlt' : (a : Int) < b := by omega
      obtain ⟨m, hm⟩ : ∃ m, m = (a + b) / 2 := ⟨_, rfl⟩
      have hw1 : IntKind.u64.wrap ((a : Int) + b) = (a : Int) + b := by rw [IntKind.wrap_u64]; omega
      have hw2 : ((a : Int) + b) / 2 = (m : Nat) := by omega
      have hmb : m < b := by omega
      have ham : a ≤ m := by omega
      have hc := Lib.hid (notbelow_any (h.below hbr) m (by omega))
      replace hm := Lib.hid hm
      rcases hq : belowP es key (m * 4) with _ | _
      · rw [hq] at hc
        go_wp2_with fail
        refine hc.out.mono ?_
        rintro e w1 ⟨rfl, hb1⟩
        go_wp2_with fail
        exact ⟨⟨a, m, rfl, rfl, ham, by omega, hlo'.out, hbr.trans (hb1.mono hbr.size)⟩, by first | omega | (simp only [intOf]; omega)⟩
      · rw [hq] at hc
        replace hq := Lib.hid hq
        go_wp2_with fail
        refine hc.out.mono ?_
        rintro e w1 ⟨rfl, hb1⟩
        go_wp2_with fail
        exact ⟨⟨m + 1, b, by go_num, rfl, by omega, hbn, fun _ => hq.out, hbr.trans (hb1.mono hbr.size)⟩, by first | omega | (simp only [intOf]; omega)⟩
    · obtain rfl : a = b := by omega
      have hlt' : ¬ (a : Int) < a := by omega
      go_wp2_with fail
      go_ret
      exact ⟨⟨a, rfl, hbn, hlo'.out⟩, hbr⟩
set_option maxRecDepth 100000 in
set_option maxHeartbeats 4000000 in
theorem Seek_any {w : World} {gx : Nat} {es : List (L × L)} (h : BkAt w gx es) (key : L) :
    Calls Tryd.prog 34 #[.pointer (some ⟨gx, 0, none⟩), .string (bs key)] w fun e w' => e = .returned (.int .i64 (seekP es key : Nat)) ∧ Below w.heap.size w w' := by
  have hlt := h.lt
  obtain ⟨A, cap, hX, hr, hv, hl1, hl2⟩ := id h
  have hsl := foldB_starts es
  have hb2 : Below w.heap.size w ((w.alloc (.cells #[.pointer (some ⟨gx, 0, none⟩)] 77)).alloc (.cells #[.string (bs key)] 9)) := ((Below.refl _ _).alloc (Nat.le_refl _) _).alloc (by rw [World.size_alloc]; omega) _
  have h2 := h.below hb2
  have hlen := Lib.hid (Len_any h2)
  rcases Nat.eq_zero_or_pos es.length with h0 | h0
  · have hR : seekP es key = 0 := by have := seekP_le es key; omega
    rw [hR]
    rw [h0] at hlen
    go_enter Tryd.func34, Tryd.ntmps34
    go_wp2_with fail
    refine hlen.out.mono ?_
    rintro e w1 ⟨rfl, hb1⟩
    go_wp2_with fail
    go_ret
    exact ⟨rfl, hb2.trans (hb1.mono hb2.size)⟩
  · have h0' : ¬ (es.length : Int) = 0 := by omega
    have c1 : w.cell? ⟨gx, 1, none⟩ = some (.slice A (foldB es).starts.length cap) := hX.cell 1
    go_enter Tryd.func34, Tryd.ntmps34
    go_wp2_with fail
    refine hlen.out.mono ?_
    rintro e w1 ⟨rfl, hb1⟩
    have hz1 := hb1.size
    rw [World.size_alloc, World.size_alloc] at hz1
    have hB1 : Blk w1 w.heap.size 77 #[.pointer (some ⟨gx, 0, none⟩)] := ((Blk.new w _ _).alloc _).below hb1 (by rw [World.size_alloc, World.size_alloc]; omega)
    have hB2 : Blk w1 (w.heap.size + 1) 9 #[.string (bs key)] := by
      have := (Blk.new (w.alloc (.cells #[.pointer (some ⟨gx, 0, none⟩)] 77)) 9 #[.string (bs key)]).below hb1 (by have e1 := World.size_alloc (w.alloc (.cells #[.pointer (some ⟨gx, 0, none⟩)] 77)) (.cells #[.string (bs key)] 9); omega)
      rwa [World.size_alloc] at this
    have d0 : w1.cell? ⟨w.heap.size, 0, none⟩ = some (.pointer (some ⟨gx, 0, none⟩)) := hB1.cell 0
    have d1 : w1.cell? ⟨w.heap.size + 1, 0, none⟩ = some (.string (bs key)) := hB2.cell 0
    have hbw := hb2.trans (hb1.mono hb2.size)
    have d2 := (hbw.cell (p := ⟨gx, 1, none⟩) hlt).trans c1
    have e0 := hB1.lt
    have e1 := hB2.lt
    have e2 : gx < w1.heap.size := by omega
    have hbw2 : Below w.heap.size w (w1.alloc (.cells #[.func (.func 56) #[] #[.pointer (some ⟨w.heap.size, 0, none⟩), .pointer (some ⟨w.heap.size + 1, 0, none⟩)]] 114)) := hbw.alloc (by omega) _
    have hsk : SkAt (w1.alloc (.cells #[.func (.func 56) #[] #[.pointer (some ⟨w.heap.size, 0, none⟩), .pointer (some ⟨w.heap.size + 1, 0, none⟩)]] 114)) gx w.heap.size (w.heap.size + 1) w1.heap.size es key :=
      ⟨h.below hbw2, (hB1.alloc _).cell 0, (hB2.alloc _).cell 0, (Blk.new w1 _ _).cell 0⟩
    have hsn : (foldB es).starts.length ≤ 1048576 := by omega
    have hse := Lib.hid (Search_any hsk (foldB es).starts.length hsn)
    replace hsl := Lib.hid hsl
    go_wp2_with fail
    refine hse.out.mono ?_
    rintro e w3 ⟨⟨r, rfl, hrn, hr0⟩, hb3⟩
    have hsk3 := hsk.below hb3
    have hb03 := hbw2.trans (hb3.mono hbw2.size)
    obtain ⟨i0, hi0, hi1, hi2⟩ : ∃ i0 : Nat, 4 * max ((r : Int) - 1) 0 = (i0 : Nat) ∧ i0 ≤ es.length ∧ ∀ j, j < i0 → belowP es key j = true := by
      rcases Nat.eq_zero_or_pos r with hr | hr
      · exact ⟨0, by omega, Nat.zero_le _, fun j hj => absurd hj (by omega)⟩
      · have hm := hr0 hr
        refine ⟨(r - 1) * 4, by omega, ?_, fun j hj => below_mono hv (by omega) hm⟩
        rcases Nat.lt_or_ge ((r - 1) * 4) es.length with h' | h'
        · omega
        · unfold belowP at hm
          rw [List.getElem?_eq_none h'] at hm
          cases hm
    have hmx : ((i0 : Nat) : Int) ≤ 1048576 := by omega
    replace hr0 := Lib.hid hr0
    replace hi2 := Lib.hid hi2
    clear d0 d1 d2
    have q1 := hsk3.p1
    have q3 := hsk3.p3
    have g1 := cell_lt q1
    have g3 := cell_lt q3
    have hrb : r ≤ 1048576 := by omega
    go_wp2_with fail
    clear hi0 hrb hmx
    go_loopw [6] (fun iv wr => ∃ i : Nat, iv = .int .i64 (i : Nat) ∧ i ≤ es.length ∧ (∀ j, j < i → belowP es key j = true) ∧ Below w3.heap.size w3 wr) (fun iv _ => es.length - (intOf iv).toNat)
    case atStart => exact ⟨i0, rfl, hi1, hi2.out, Below.refl _ _⟩
    case round =>
      obtain ⟨i, rfl, hil, hal, hbr⟩ := hrel
      have hskr := hsk3.below hbr
      have p3 := hskr.p3
      have lp3 := cell_lt p3
      have hc := Lib.hid (below_any hskr i (by omega))
      have hbi := hb03.trans (hbr.mono hb03.size)
      replace hal := Lib.hid hal
      rcases hq : belowP es key i with _ | _
      · rw [hq] at hc
        have hR := seekP_eq key es i hal.out hq
        replace hq := Lib.hid hq
        replace hR := Lib.hid hR
        go_wp2_with fail
        refine hc.out.mono ?_
        rintro e w4 ⟨rfl, hb4⟩
        go_wp2_with fail
        go_ret
        exact ⟨by rw [hR.out]; rfl, hbi.trans (hb4.mono hbi.size)⟩
      · rw [hq] at hc
        have hil2 : i < es.length := by
          rcases Nat.lt_or_ge i es.length with h' | h'
          · exact h'
          · unfold belowP at hq
            rw [List.getElem?_eq_none h'] at hq
            cases hq
        replace hq := Lib.hid hq
        go_wp2_with fail
        refine hc.out.mono ?_
        rintro e w4 ⟨rfl, hb4⟩
        go_wp2_with fail
        refine ⟨⟨i + 1, by go_num, by omega, fun j hj => ?_, hbr.trans (hb4.mono hbr.size)⟩, by first | omega | (simp only [intOf]; omega)⟩
        rcases Nat.lt_or_ge j i with h' | h'
        · exact hal.out j h'
        · obtain rfl : j = i := by omega
          exact hq.out
/-- A table in memory: its filter, its index's entries, its data blocks' entries. -/
def TTAt (w : World) (gt : Nat) (f : L) (ix : List (L × L)) (bls : List (List (L × L))) : Prop := ∃ gi A cap, ∃ gs : List Nat, Blk w gt 80 #[.string (bs f), .pointer (some ⟨gi, 0, none⟩), .slice A gs.length cap] ∧ BkAt w gi ix ∧ Reads w w.heap.size 1 A gs.length (gs.map fun g => Value.pointer (some ⟨g, 0, none⟩)) ∧ gs.length = bls.length ∧ ∀ (i g : Nat) (b : List (L × L)), gs[i]? = some g → bls[i]? = some b → BkAt w g b
theorem TTAt.below {w w' : World} {gt : Nat} {f : L} {ix : List (L × L)} {bls : List (List (L × L))} (h : TTAt w gt f ix bls) (hb : Below w.heap.size w w') : TTAt w' gt f ix bls := by
  obtain ⟨gi, A, cap, gs, h1, h2, h3, h4, h5⟩ := h
  exact ⟨gi, A, cap, gs, h1.below hb h1.lt, h2.below hb, (h3.below hb).more hb.size, h4, fun i g b hg hbb => (h5 i g b hg hbb).below hb⟩
/-- Likewise, all of it among F. -/
def TTF (F : Nat → Prop) (w : World) (gt : Nat) (f : L) (ix : List (L × L)) (bls : List (List (L × L))) : Prop := ∃ gi A cap, ∃ gs : List Nat, Blk w gt 80 #[.string (bs f), .pointer (some ⟨gi, 0, none⟩), .slice A gs.length cap] ∧ BkF F w gi ix ∧ Reads w w.heap.size 1 A gs.length (gs.map fun g => Value.pointer (some ⟨g, 0, none⟩)) ∧ gs.length = bls.length ∧ (∀ (i g : Nat) (b : List (L × L)), gs[i]? = some g → bls[i]? = some b → BkF F w g b) ∧ F gt ∧ ∀ ad, A = some ad → 0 < gs.length → F ad.block
theorem TTF.at_ {F : Nat → Prop} {w : World} {gt : Nat} {f : L} {ix : List (L × L)} {bls : List (List (L × L))} (h : TTF F w gt f ix bls) : TTAt w gt f ix bls := by
  obtain ⟨gi, A, cap, gs, h1, h2, h3, h4, h5, h6, h7⟩ := h
  exact ⟨gi, A, cap, gs, h1, h2.at_, h3, h4, fun i g b hg hb => (h5 i g b hg hb).at_⟩
theorem TTF.kept {F S : Nat → Prop} {w w' : World} {gt : Nat} {f : L} {ix : List (L × L)} {bls : List (List (L × L))} (h : TTF F w gt f ix bls) (hk : KeptBut w w' S) (hd : ∀ k, F k → ¬ S k) : TTF F w' gt f ix bls := by
  obtain ⟨gi, A, cap, gs, h1, h2, h3, h4, h5, h6, h7⟩ := h
  exact ⟨gi, A, cap, gs, h1.keptB hk (hd _ h6), h2.kept hk hd, reads_kept hk h3 (fun ad e hn => hd _ (h7 ad e hn)), h4, fun i g b hg hb => (h5 i g b hg hb).kept hk hd, h6, h7⟩
theorem TTF.mono {F F' : Nat → Prop} {w : World} {gt : Nat} {f : L} {ix : List (L × L)} {bls : List (List (L × L))} (h : TTF F w gt f ix bls) (hF : ∀ k, k < w.heap.size → F k → F' k) : TTF F' w gt f ix bls := by
  obtain ⟨gi, A, cap, gs, h1, h2, h3, h4, h5, h6, h7⟩ := h
  exact ⟨gi, A, cap, gs, h1, h2.mono hF, h3, h4, fun i g b hg hb => (h5 i g b hg hb).mono hF, hF _ h1.lt h6, fun ad e hn => by
    obtain ⟨ad', e', hb, _⟩ := h3.2 hn
    rw [e] at e'
    injection e' with e'
    subst e'
    exact hF _ hb (h7 ad e hn)⟩
set_option maxRecDepth 100000 in
set_option maxHeartbeats 1000000 in
theorem tMay_nil (key : ByteArray) (w : World) : Calls Tryd.prog 13 #[.pointer none, .string key] w fun e w' => e = .returned (.bool false) ∧ Below w.heap.size w w' := by
  go_enter Tryd.func13, Tryd.ntmps13
  go_wp2_with fail
  go_ret
  exact ⟨rfl, Below.refl _ _⟩
set_option maxRecDepth 100000 in
set_option maxHeartbeats 1000000 in
theorem tMay_any {w : World} {gt : Nat} {f : L} {ix : List (L × L)} {bls : List (List (L × L))} (h : TTAt w gt f ix bls) (hf : f.length ≤ 68719476736) (key : ByteArray) (hk : key.size ≤ 1099511627776) :
    Calls Tryd.prog 13 #[.pointer (some ⟨gt, 0, none⟩), .string key] w fun e w' => e = .returned (.bool (mayL f key.data.toList)) ∧ Below w.heap.size w w' := by
  obtain ⟨gi, A, cap, gs, hB, h2, h3, h4, h5⟩ := h
  have c0 : w.cell? ⟨gt, 0, none⟩ = some (.string (bs f)) := hB.cell 0
  have hlt := hB.lt
  have hm := bMay_any (bs f) key w (by rw [bs_size]; exact hf) hk
  rw [bs_data] at hm
  replace hm := Lib.hid hm
  go_enter Tryd.func13, Tryd.ntmps13
  go_wp2_with fail
  refine hm.out.mono ?_
  rintro e w1 ⟨rfl, hb1⟩
  go_wp2_with fail
  go_ret
  exact ⟨rfl, hb1⟩
end Go.Proofs.YtfnlponoakhegaaDoor
