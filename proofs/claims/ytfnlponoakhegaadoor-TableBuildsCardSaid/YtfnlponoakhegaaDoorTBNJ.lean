/- block: next. -/
import Derived.Test.YtfnlponoakhegaaDoorB02
import Derived.Deep.AppendSrc
import Derived.Deep.Upon
namespace Go.Proofs.YtfnlponoakhegaaDoor
open Go.RowKit
set_option linter.unusedVariables false
set_option linter.unusedSimpArgs false
/-- A value that reads az these bytes. -/
def RdB (w : World) (v : Value) (l : L) : Prop := (v = .slice none 0 0 ∧ l = []) ∨ ∃ b cap, v = .slice (some ⟨b, 0, none⟩) l.length cap ∧ l.length ≤ cap ∧ b < w.heap.size ∧ ∀ j u, (l.map B8)[j]? = some u → w.cell? ⟨b, j, none⟩ = some u
theorem RdB.below {w w' : World} {v : Value} {l : L} (h : RdB w v l) (hb : Below w.heap.size w w') : RdB w' v l := by
  rcases h with h | ⟨b, cap, e, h1, h2, h3⟩
  · exact .inl h
  · exact .inr ⟨b, cap, e, h1, Nat.lt_of_lt_of_le h2 hb.size, fun j u hu => (hb.cell (p := ⟨b, j, none⟩) h2).trans (h3 j u hu)⟩
theorem RdB.kept {w w' : World} {S : Nat → Prop} {v : Value} {l : L} (h : RdB w v l) (hk : KeptBut w w' S) (hs : ∀ k, v.ownBlock = some k → ¬ S k) : RdB w' v l := by
  rcases h with h | ⟨b, cap, rfl, h1, h2, h3⟩
  · exact .inl h
  · exact .inr ⟨b, cap, rfl, h1, Nat.lt_of_lt_of_le h2 hk.size, fun j u hu => (hk.cell ⟨b, j, none⟩ h2 (hs b rfl)).trans (h3 j u hu)⟩
theorem RdB.own {w : World} {v : Value} {l : L} (h : RdB w v l) : ∀ k, v.ownBlock = some k → k < w.heap.size := by
  intro k hk
  rcases h with ⟨rfl, _⟩ | ⟨b, cap, rfl, h1, h2, h3⟩
  · cases hk
  · simp only [Value.ownBlock, Option.some.injEq] at hk
    omega
theorem KeptBut.below_of {w0 w w' : World} {S : Nat → Prop} (h : KeptBut w w' S) (hb : Below w0.heap.size w0 w) (hS : ∀ k, S k → w0.heap.size ≤ k) : Below w0.heap.size w0 w' :=
  hb.trans (h.below hS hb.size)
theorem RdB.nil (w : World) : RdB w (.slice none 0 0) [] := .inl ⟨rfl, rfl⟩
theorem RdB.form {w : World} {v : Value} {l : L} (h : RdB w v l) : ∃ A cap, v = .slice A l.length cap ∧ l.length ≤ cap ∧ (A = none → cap = 0) := by
  rcases h with ⟨rfl, rfl⟩ | ⟨b, cap, e, h1, h2, h3⟩
  · exact ⟨none, 0, rfl, Nat.le_refl _, fun _ => rfl⟩
  · exact ⟨_, cap, e, h1, fun e => by cases e⟩
set_option maxRecDepth 100000 in
theorem RdB.text {w : World} {v : Value} {l : L} (h : RdB w v l) : (convert 34 9 v).run Tryd.prog w = .ok (.string (bs l)) w := by
  rcases h with ⟨rfl, rfl⟩ | ⟨b, cap, rfl, h1, h2, h3⟩
  · have h0 := run_convert_bytes_nil (P := Tryd.prog) w 34 5 Tryd.underlying34 Tryd.underlying5 0 0 9 Tryd.underlying9
    rw [h0, empty_bytes]
    rfl
  · have := run_convert_bytes_arg (P := Tryd.prog) w 34 5 Tryd.underlying34 Tryd.underlying5 b 0 l.length cap (l.map fun c => (c.toNat : Int)) (by simp) (fun i hi => by
      have hi' : i < l.length := by simpa using hi
      have hc := h3 i (B8 l[i]) (by rw [List.getElem?_map, List.getElem?_eq_getElem hi']; rfl)
      rw [Nat.zero_add, hc]
      simp [B8, List.getD, hi']) 9 Tryd.underlying9
    rw [this]
    congr 2
    unfold strOfNums bs
    congr 1
    simp [List.map_map, Function.comp_def]
theorem byteCells_B8 (s : ByteArray) : byteCells s = s.data.toList.map B8 := rfl
set_option maxRecDepth 100000 in
/-- A text appended to a cut row without room. -/
theorem append_cut {w : World} {A : Option Addr} {l : L} (ty : TypeId) (h : RdB w (.slice A l.length l.length) l) (s : ByteArray) (hs : l.length + s.size ≤ 70368744177664) :
    ∃ v' w', (Builtin.append_ #[34, 9] ty #[.slice A l.length l.length, .string s]).run Tryd.prog w = .ok v' w' ∧ RdB w' v' (l ++ s.data.toList) ∧ Below w.heap.size w w' ∧ Moved w (.slice A l.length l.length) v' := by
  obtain ⟨i0, hi0, hz0, hz1, hz2⟩ := info_parts u8_info
  have hsrc := Src.ofString (P := Tryd.prog) w (tx := 9) Tryd.underlying9 s
  rcases Nat.eq_zero_or_pos s.size with h0 | h0
  · have hd : s.data.toList = [] := List.eq_nil_of_length_eq_zero (by rw [dlen]; exact h0)
    have hbc : byteCells s = [] := by rw [byteCells_B8, hd]; rfl
    rw [h0, hbc] at hsrc
    have hr := run_append_nothing (P := Tryd.prog) w 34 9 ty 5 i0 Tryd.underlying34 hi0 A l.length l.length (Nat.le_refl _) (.string s) (by rw [hz1]; exact hsrc)
    exact ⟨_, _, hr, by rw [hd, List.append_nil]; exact h, Below.refl _ _, Moved.refl _ _⟩
  · have hold : (Builtin.firstCells i0.size l.length (.slice A l.length l.length)).run Tryd.prog w.drew = .ok (l.map B8).toArray w.drew := by
      rw [hz1]
      rcases h with ⟨e, rfl⟩ | ⟨b, cap, e, h1, h2, h3⟩
      · injection e with e _ _
        subst e
        exact run_firstCells_none w.drew 1 0 0 0
      · injection e with e _ _
        subst e
        exact run_firstCells_some w.drew 1 l.length ⟨b, 0, none⟩ l.length l.length (l.map B8) (by simp) (fun j u hu => by
          rw [add_off, Nat.zero_add]
          exact h3 j u hu)
    have hr := run_append_grow_src (P := Tryd.prog) w 34 9 ty 5 i0 (.int .u8 0) Tryd.underlying34 hi0 hz0 A l.length l.length (l.map B8) hold (.string s) s.size (byteCells s) (by rw [hz1]; exact hsrc) (by omega) (by omega) (by rw [hz2]; exact growslice_fits (by omega) (by omega))
    refine ⟨_, _, hr, .inr ⟨w.heap.size, grownCap w (l.length + s.size) l.length 5, ?_, ?_, ?_, fun j u hu => ?_⟩, ((Below.refl _ _).drew).alloc (Nat.le_refl _) _, .inr ⟨_, rfl, Nat.le_refl _⟩⟩
    · rw [List.length_append, dlen]
    · rw [List.length_append, dlen]
      exact grownCap_ge w (l.length + s.size) l.length 5
    · show w.heap.size < (w.drew.alloc _).heap.size
      rw [World.size_alloc]
      exact Nat.lt_succ_self _
    · have hcell := (Blk.new w.drew 5 ((l.map B8 ++ byteCells s).toArray ++ Builtin.zeroCells (Value.int .u8 0).cells (grownCap w (l.length + s.size) l.length 5 - (l.length + s.size)))).cell j
      refine hcell.trans ?_
      rw [List.map_append, ← byteCells_B8] at hu
      have hj : j < (l.map B8 ++ byteCells s).length := (List.getElem?_eq_some_iff.1 hu).1
      rw [Array.getElem?_append_left (by simpa using hj), List.getElem?_toArray]
      exact hu
theorem wpList_append_cut {w : World} {ops : Array Oper} {rest : List Oper} {o : Oper} {a : Act} {Q : Exit → Act → World → Prop} (hgd : o.guard = none) (sl x : Operand)
    (ho : o.op = .call { callee := .builtin .append, args := #[sl, x], argTypes := #[34, 9] })
    (A : Option Addr) (l : L) (n : Nat) (hs : a.eval sl = .slice A n n) (hn : l.length = n) (h : RdB w (.slice A n n) l) (s : ByteArray) (hx : a.eval x = .string s) (hbytes : l.length + s.size ≤ 70368744177664)
    (hk : ∀ v' w', RdB w' v' (l ++ s.data.toList) → Below w.heap.size w w' → Moved w (.slice A n n) v' → wpList Tryd.prog ops Q rest (a.put o.dst v') w') : wpList Tryd.prog ops Q (o :: rest) a w := by
  subst hn
  refine wpList_plain hgd fun K hK => ?_
  obtain ⟨v', w', hr, h2, h3, h4⟩ := append_cut o.type h s hbytes
  unfold Oper.wp execOp
  simp only [ho, resolve, invoke, builtin, Sem.run_bind, Sem.run_pure, Result.andThen_ok, List.map_toArray, List.map_cons, List.map_nil, hs, hx, hr]
  exact hK _ _ (hk v' w' h2 h3 h4)
theorem RdB.cut {w : World} {A : Option Addr} {n cap : Nat} {l : L} (h : RdB w (.slice A n cap) l) (k : Nat) (hk : k ≤ l.length) : RdB w (.slice A (l.take k).length (l.take k).length) (l.take k) := by
  rcases h with ⟨e, rfl⟩ | ⟨b, cap', e, h1, h2, h3⟩
  · injection e with e _ _
    subst e
    simp
    exact RdB.nil w
  · injection e with e _ _
    subst e
    refine .inr ⟨b, _, rfl, Nat.le_refl _, h2, fun j u hu => h3 j u ?_⟩
    rw [List.map_take] at hu
    have hj : j < k := by
      rcases Nat.lt_or_ge j k with h' | h'
      · exact h'
      · rw [List.getElem?_eq_none (by simp; omega)] at hu; cases hu
    rwa [List.getElem?_take_of_lt hj] at hu
theorem Moved.of_cut {w w3 : World} {A : Option Addr} {a b c d : Nat} {v : Value} (h : Moved w3 (.slice A a b) v) (hz : w.heap.size ≤ w3.heap.size) : Moved w (.slice A c d) v := by
  rcases h with e | ⟨k, e, hk⟩
  · exact .inl (e.trans (by cases A <;> rfl))
  · exact .inr ⟨k, e, Nat.le_trans hz hk⟩
def NextIs (w : World) (va : Value) (o : Option (L × L × Nat)) (e : Ending) (w' : World) : Prop := match o with
  | none => e = .returned (.tuple #[.slice none 0 0, .string ⟨#[]⟩, .int .i64 (-1)])
  | some (k, v, q) => ∃ kv, e = .returned (.tuple #[kv, .string (bs v), .int .i64 (q : Nat)]) ∧ RdB w' kv k ∧ Moved w va kv
theorem NextIs.none_ {w : World} {va : Value} {o : Option (L × L × Nat)} {w' : World} (h : o = none) : NextIs w va o (.returned (.tuple #[.slice none 0 0, .string ⟨#[]⟩, .int .i64 (-1)])) w' := by subst h; rfl
theorem NextIs.some_ {w : World} {va : Value} {o : Option (L × L × Nat)} {w' : World} {k v : L} {q : Nat} {kv : Value} (h : o = some (k, v, q)) (hk : RdB w' kv k) (hm : Moved w va kv) : NextIs w va o (.returned (.tuple #[kv, .string (bs v), .int .i64 (q : Nat)])) w' := by subst h; exact ⟨kv, rfl, hk, hm⟩
theorem ReadText_none (s : ByteArray) (most : Int) (w : World) (hs : s.size ≤ maxLen) (h0 : -9223372036854775808 ≤ most) (h1 : most ≤ 9223372036854775807) (h : readText s.data.toList most = none) :
    Calls Tryd.prog 78 #[.string s, .int .i64 most] w fun e w' => e = .returned (.tuple #[.string ⟨#[]⟩, .int .i64 0, .bool false]) ∧ Below w.heap.size w w' := by
  have := ReadText_any s most w hs h0 h1
  rw [h] at this
  exact this
theorem ReadText_some (s : ByteArray) (most : Int) (t : List UInt8) (z : Nat) (w : World) (hs : s.size ≤ maxLen) (h0 : -9223372036854775808 ≤ most) (h1 : most ≤ 9223372036854775807) (h : readText s.data.toList most = some (t, z)) :
    Calls Tryd.prog 78 #[.string s, .int .i64 most] w fun e w' => e = .returned (.tuple #[.string (bs t), .int .i64 z, .bool true]) ∧ Below w.heap.size w w' := by
  have := ReadText_any s most w hs h0 h1
  rw [h] at this
  exact this
theorem readText_le {l : L} {m : Int} {t : L} {z : Nat} (h : readText l m = some (t, z)) : z ≤ l.length ∧ t.length ≤ l.length ∧ (t.length : Int) ≤ m := by
  unfold readText at h
  split at h
  · cases h
  · rename_i n k hv
    obtain ⟨a, b, c⟩ := readVar_le hv
    split at h
    · cases h
    · injection h with h
      injection h with h1 h2
      subst h1 h2
      simp
      omega
theorem drop_data (s : ByteArray) (p : Nat) : (s.extract p s.size).data.toList = s.data.toList.drop p := by rw [ext_bs, bs_data, List.take_of_length_le]; simp [dlen]
set_option maxRecDepth 100000 in
set_option maxHeartbeats 4000000 in
theorem next_any (s : ByteArray) (p : Nat) (v : Value) (ahead : L) (w : World) (hv : RdB w v ahead) (hp : p ≤ s.size) (hs : s.size ≤ 1099511627776) (ha : ahead.length ≤ 1099511627776) :
    Calls Tryd.prog 59 #[.string s, .int .i64 p, v] w fun e w' => NextIs w v (nextP s.data.toList p ahead) e w' ∧ Below w.heap.size w w' := by
  obtain ⟨Aa, ca, rfl, hca, hna⟩ := hv.form
  have hsz : ∀ q, (s.extract q s.size).size ≤ maxLen := fun q => by unfold maxLen; simp; omega
  replace hsz := Lib.hid hsz
  cases hr : readVar (s.data.toList.drop p) with
  | none =>
    have hR : nextP s.data.toList p ahead = none := by unfold nextP; rw [hr]
    have hx := Lib.hid (ReadVar_none (s.extract p s.size) w (hsz.out p) (by rw [drop_data]; exact hr))
    replace hr := Lib.hid hr
    replace hR := Lib.hid hR
    go_enter Tryd.func59, Tryd.ntmps59
    go_wp2_with fail
    refine hx.out.mono ?_
    rintro e w1 ⟨rfl, hb1⟩
    go_wp2_with fail
    go_ret3
    exact ⟨NextIs.none_ hR.out, hb1⟩
  | some q =>
    obtain ⟨n, z⟩ := q
    have hx := Lib.hid (ReadVar_some (s.extract p s.size) n z w (hsz.out p) (by rw [drop_data]; exact hr))
    obtain ⟨z1, z2, hn⟩ := readVar_le hr
    rw [List.length_drop, dlen] at z2
    by_cases hal : ahead.length < n
    · have hR : nextP s.data.toList p ahead = none := by unfold nextP; rw [hr]; simp only []; rw [if_pos hal]
      have hal' : ((ahead.length : Nat) : Int) < (n : Int) := by omega
      have haw : IntKind.u64.wrap ((ahead.length : Nat) : Int) = (ahead.length : Nat) := by rw [IntKind.wrap_u64]; omega
      replace hr := Lib.hid hr
      replace hR := Lib.hid hR
      go_enter Tryd.func59, Tryd.ntmps59
      go_wp2_with fail
      refine hx.out.mono ?_
      rintro e w1 ⟨rfl, hb1⟩
      go_wp2_with fail
      go_ret3
      exact ⟨NextIs.none_ hR.out, hb1⟩
    · have hal' : ¬ ((ahead.length : Nat) : Int) < (n : Int) := by omega
      have haw : IntKind.u64.wrap ((ahead.length : Nat) : Int) = (ahead.length : Nat) := by rw [IntKind.wrap_u64]; omega
      have hpz : p + z ≤ s.size := by omega
      have hpz' : ((p + z : Nat) : Int) = (p : Int) + z := by omega
      cases ht : readText (s.data.toList.drop (p + z)) 1024 with
      | none =>
        have hR : nextP s.data.toList p ahead = none := by unfold nextP; rw [hr]; simp only []; rw [if_neg hal, ht]
        have hy := fun w => Lib.hid (ReadText_none (s.extract (p + z) s.size) 1024 w (hsz.out _) (by omega) (by omega) (by rw [drop_data]; exact ht))
        replace hr := Lib.hid hr
        replace hR := Lib.hid hR
        replace ht := Lib.hid ht
        go_enter Tryd.func59, Tryd.ntmps59
        go_wp2_with fail
        refine hx.out.mono ?_
        rintro e w1 ⟨rfl, hb1⟩
        go_wp2_with fail
        refine (hy w1).out.mono ?_
        rintro e w2 ⟨rfl, hb2⟩
        go_wp2_with fail
        go_ret3
        exact ⟨NextIs.none_ hR.out, hb1.trans (hb2.mono hb1.size)⟩
      | some q =>
        obtain ⟨rest, z1⟩ := q
        obtain ⟨y1, y2, y3⟩ := readText_le ht
        rw [List.length_drop, dlen] at y1 y2
        have hpz1 : p + z + z1 ≤ s.size := by omega
        have hpz1' : ((p + z + z1 : Nat) : Int) = (p : Int) + z + z1 := by omega
        have hy := fun w => Lib.hid (ReadText_some (s.extract (p + z) s.size) 1024 rest z1 w (hsz.out _) (by omega) (by omega) (by rw [drop_data]; exact ht))
        cases hu : readText (s.data.toList.drop (p + z + z1)) 1024 with
        | none =>
          have hR : nextP s.data.toList p ahead = none := by unfold nextP; rw [hr]; simp only []; rw [if_neg hal, ht]; simp only []; rw [hu]
          have hq := fun w => Lib.hid (ReadText_none (s.extract (p + z + z1) s.size) 1024 w (hsz.out _) (by omega) (by omega) (by rw [drop_data]; exact hu))
          replace hr := Lib.hid hr
          replace hR := Lib.hid hR
          replace ht := Lib.hid ht
          replace hu := Lib.hid hu
          go_enter Tryd.func59, Tryd.ntmps59
          go_wp2_with fail
          refine hx.out.mono ?_
          rintro e w1 ⟨rfl, hb1⟩
          go_wp2_with fail
          refine (hy w1).out.mono ?_
          rintro e w2 ⟨rfl, hb2⟩
          go_wp2_with fail
          refine (hq w2).out.mono ?_
          rintro e w3 ⟨rfl, hb3⟩
          go_wp2_with fail
          go_ret3
          exact ⟨NextIs.none_ hR.out, (hb1.trans (hb2.mono hb1.size)).trans (hb3.mono (Nat.le_trans hb1.size hb2.size))⟩
        | some q =>
          obtain ⟨vv, z2⟩ := q
          have hR : nextP s.data.toList p ahead = some (ahead.take n ++ rest, vv, p + z + z1 + z2) := by unfold nextP; rw [hr]; simp only []; rw [if_neg hal, ht]; simp only []; rw [hu]
          obtain ⟨x1, x2, x3⟩ := readText_le hu
          rw [List.length_drop, dlen] at x1 x2
          have hpz2' : ((p + z + z1 + z2 : Nat) : Int) = (p : Int) + z + z1 + z2 := by omega
          have hq := fun w => Lib.hid (ReadText_some (s.extract (p + z + z1) s.size) 1024 vv z2 w (hsz.out _) (by omega) (by omega) (by rw [drop_data]; exact hu))
          have hnl : n ≤ ahead.length := by omega
          have htl : (ahead.take n).length = n := by rw [List.length_take]; omega
          have hncap : (n : Int) ≤ ca := by omega
          have hcut := hv.cut n hnl
          rw [htl] at hcut
          have hrs : (bs rest).size = rest.length := bs_size rest
          replace hr := Lib.hid hr
          replace hR := Lib.hid hR
          replace ht := Lib.hid ht
          replace hu := Lib.hid hu
          replace hcut := Lib.hid hcut
          replace hv := Lib.hid hv
          go_enter Tryd.func59, Tryd.ntmps59
          go_wp2_with fail
          refine hx.out.mono ?_
          rintro e w1 ⟨rfl, hb1⟩
          go_wp2_with fail
          refine (hy w1).out.mono ?_
          rintro e w2 ⟨rfl, hb2⟩
          go_wp2_with fail
          refine (hq w2).out.mono ?_
          rintro e w3 ⟨rfl, hb3⟩
          have hbb := (hb1.trans (hb2.mono hb1.size)).trans (hb3.mono (Nat.le_trans hb1.size hb2.size))
          have hc3 := hcut.out.below hbb
          go_wp2_with (at_builtin; refine wpList_append_cut rfl (.tmp 59) (.tmp 60) rfl Aa (ahead.take n) n rfl htl hc3 (bs rest) rfl (by omega) ?_; intro v4 w4 ho4 hb4 hm4)
          rw [bs_data] at ho4
          go_ret3
          exact ⟨NextIs.some_ hR.out ho4 (Moved.of_cut hm4 hbb.size), hbb.trans (hb4.mono hbb.size)⟩
end Go.Proofs.YtfnlponoakhegaaDoor
