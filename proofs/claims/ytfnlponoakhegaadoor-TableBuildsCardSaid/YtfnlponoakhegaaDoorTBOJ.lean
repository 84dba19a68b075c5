/- block: Open. -/
import Derived.Test.YtfnlponoakhegaaDoorTBNJ
namespace Go.Proofs.YtfnlponoakhegaaDoor
open Go.RowKit
set_option linter.unusedVariables false
set_option linter.unusedSimpArgs false
theorem int_info : (Tryd.prog.info? 3).map (fun i => (i.zero, i.size, i.bytes)) = some (some (.int .i64 0), 1, 8) := by kernel_rfl
def OwnI (w : World) (B : Nat) (v : Value) (l : List Nat) : Prop := w.ownsRow B 3 1 v l.length (l.map fun n => Value.int .i64 (n : Nat))
theorem OwnI.form {w : World} {B : Nat} {v : Value} {l : List Nat} (h : OwnI w B v l) : ∃ A cap, v = .slice A l.length cap := by
  rcases h.2 with ⟨rfl, e⟩ | ⟨g, cap, cur, rfl, _⟩
  · exact ⟨none, 0, by rw [e]⟩
  · exact ⟨_, cap, rfl⟩
theorem OwnI.of_law {w : World} {B n : Nat} {v : Value} {l : List Nat} {m : Nat} (h : w.ownsRow B 3 1 v n ((l.map fun n => Value.int .i64 (n : Nat)) ++ [.int .i64 (m : Nat)])) : OwnI w B v (l ++ [m]) := by
  have hl : n = (l ++ [m]).length := by have := h.1; simp at this; simp; omega
  subst hl
  unfold OwnI
  rw [List.map_append]
  exact h
theorem new_int (w : World) (X : Int) (t : TypeId) : Reads (w.alloc (.cells #[.int .i64 X] t)) (w.heap.size + 1) 1 (some ⟨w.heap.size, 0, none⟩) 1 [.int .i64 X] := by
  refine ⟨rfl, fun _ => ⟨_, rfl, by simp, fun j u hu => ?_⟩⟩
  cases j with
  | zero =>
    simp at hu
    subst hu
    simp only [Addr.add, if_true]
    rw [World.cell?_alloc_new]
    rfl
  | succ j => simp at hu
/-- A block that lies in memory, with its entries. -/
def BkAt (w : World) (gx : Nat) (es : List (L × L)) : Prop := ∃ A cap, Blk w gx 118 #[.string (bs (foldB es).b), .slice A (foldB es).starts.length cap, .int .i64 es.length] ∧ Reads w w.heap.size 1 A (foldB es).starts.length ((foldB es).starts.map fun n => Value.int .i64 (n : Nat)) ∧ ValidB es ∧ es.length ≤ 1048576 ∧ (foldB es).b.length ≤ 1048576
theorem BkAt.below {w w' : World} {gx : Nat} {es : List (L × L)} (h : BkAt w gx es) (hb : Below w.heap.size w w') : BkAt w' gx es := by
  obtain ⟨A, cap, h1, h2, h3⟩ := h
  exact ⟨A, cap, h1.below hb h1.lt, (h2.below hb).more hb.size, h3⟩
theorem BkAt.lt {w : World} {gx : Nat} {es : List (L × L)} (h : BkAt w gx es) : gx < w.heap.size := by
  obtain ⟨A, cap, h1, h2, h3⟩ := h
  exact h1.lt
/-- A block that lies in memory, all of it among F. -/
def BkF (F : Nat → Prop) (w : World) (gx : Nat) (es : List (L × L)) : Prop := ∃ A cap, Blk w gx 118 #[.string (bs (foldB es).b), .slice A (foldB es).starts.length cap, .int .i64 es.length] ∧ Reads w w.heap.size 1 A (foldB es).starts.length ((foldB es).starts.map fun n => Value.int .i64 (n : Nat)) ∧ (ValidB es ∧ es.length ≤ 1048576 ∧ (foldB es).b.length ≤ 1048576) ∧ F gx ∧ ∀ ad, A = some ad → 0 < (foldB es).starts.length → F ad.block
theorem BkF.at_ {F : Nat → Prop} {w : World} {gx : Nat} {es : List (L × L)} (h : BkF F w gx es) : BkAt w gx es := by
  obtain ⟨A, cap, h1, h2, h3, h4, h5⟩ := h
  exact ⟨A, cap, h1, h2, h3⟩
theorem BkF.in_ {F : Nat → Prop} {w : World} {gx : Nat} {es : List (L × L)} (h : BkF F w gx es) : F gx := by
  obtain ⟨A, cap, h1, h2, h3, h4, h5⟩ := h
  exact h4
theorem reads_kept {w w' : World} {S : Nat → Prop} (hk : KeptBut w w' S) {m n : Nat} {A : Option Addr} {xs : List Value} (hr : Reads w w.heap.size m A n xs) (hs : ∀ ad, A = some ad → 0 < n → ¬ S ad.block) : Reads w' w'.heap.size m A n xs := by
  rcases Nat.eq_zero_or_pos n with h0 | h0
  · exact ⟨hr.1, fun h => absurd h (by omega)⟩
  · exact hk.reads hr (fun ad e => hs ad e h0)
theorem BkF.kept {F S : Nat → Prop} {w w' : World} {gx : Nat} {es : List (L × L)} (h : BkF F w gx es) (hk : KeptBut w w' S) (hd : ∀ k, F k → ¬ S k) : BkF F w' gx es := by
  obtain ⟨A, cap, h1, h2, h3, h4, h5⟩ := h
  exact ⟨A, cap, h1.keptB hk (hd _ h4), reads_kept hk h2 (fun ad e hn => hd _ (h5 ad e hn)), h3, h4, h5⟩
theorem BkF.mono {F F' : Nat → Prop} {w : World} {gx : Nat} {es : List (L × L)} (h : BkF F w gx es) (hF : ∀ k, k < w.heap.size → F k → F' k) : BkF F' w gx es := by
  obtain ⟨A, cap, h1, h2, h3, h4, h5⟩ := h
  exact ⟨A, cap, h1, h2, h3, hF _ h1.lt h4, fun ad e hn => by
    obtain ⟨ad', e', hb, _⟩ := h2.2 hn
    rw [e] at e'
    injection e' with e'
    subst e'
    exact hF _ hb (h5 ad e hn)⟩
def OpenIs (w : World) (o : Option (List (L × L))) (e : Ending) (w' : World) : Prop := match o with
  | none => e = .returned (.tuple #[.pointer none, .int .i64 8])
  | some es => ∃ gx, e = .returned (.tuple #[.pointer (some ⟨gx, 0, none⟩), .int .i64 0]) ∧ w.heap.size ≤ gx ∧ BkF (fun k => w.heap.size ≤ k) w' gx es
theorem OpenIs.none_ {w : World} {o : Option (List (L × L))} {w' : World} (h : o = none) : OpenIs w o (.returned (.tuple #[.pointer none, .int .i64 8])) w' := by subst h; rfl
theorem OpenIs.some_ {w : World} {o : Option (List (L × L))} {w' : World} {es : List (L × L)} {gx : Nat} (h : o = some es) (hg : w.heap.size ≤ gx) (hk : BkF (fun k => w.heap.size ≤ k) w' gx es) : OpenIs w o (.returned (.tuple #[.pointer (some ⟨gx, 0, none⟩), .int .i64 0])) w' := by subst h; exact ⟨gx, rfl, hg, hk⟩
theorem readBig4_lt {l : L} {c : Nat} (h : readBig l 4 = some c) : c < 4294967296 := by
  unfold readBig at h
  split at h
  · cases h
  · rename_i hk
    injection h with h
    subst h
    have h1 := beV_lt (l.take (4 : Int).toNat)
    have h2 : (l.take (4 : Int).toNat).length ≤ 4 := by rw [List.length_take]; exact Nat.min_le_left _ _
    have h3 : 256 ^ (l.take (4 : Int).toNat).length ≤ 256 ^ 4 := Nat.pow_le_pow_right (by omega) h2
    omega
/-- What the loop of Open has behind i entries. -/
def OInv (w : World) (S : L) (c gx ga : Nat) (kv av iv : Value) (wr : World) : Prop := ∃ i key p bb es vx vb vs cs, i ≤ c ∧ iv = .int .i64 (i : Nat) ∧ av = .int .i64 (p : Nat) ∧ rdB S i = some (key, p, bb, es) ∧ RdB wr kv key ∧ Blk wr gx 118 #[.string (bs S), vx, .int .i64 (c : Nat)] ∧ OwnI wr w.heap.size vx (stR S i) ∧ BBAt wr w.heap.size ga 64 0 cs bb vb vs ∧ (∀ k, kv.ownBlock = some k → vb.ownBlock ≠ some k ∧ k ≠ ga ∧ vs.ownBlock ≠ some k ∧ k ≠ gx ∧ vx.ownBlock ≠ some k) ∧ Below w.heap.size w wr
theorem app_facts {wr w2 : World} {B gx n l cx : Nat} {Ax : Option Addr} {x0 x2 : Value} {xs : List Value} {o : Obj} (hX : Blk wr gx 118 #[x0, .slice Ax n cx, x2]) (hI : wr.ownsRow B 3 1 (.slice Ax n cx) l xs) (hg : (wr.alloc o).grownBy w2 (Value.slice Ax n cx).ownBlock) :
    KeptBut wr w2 (fun k => (Value.slice Ax n cx).ownBlock = some k) ∧ Blk w2 gx 118 #[x0, .slice Ax n cx, x2] ∧ w2.cell? ⟨gx, 0, none⟩ = some x0 ∧ w2.cell? ⟨gx, 1, none⟩ = some (.slice Ax n cx) ∧ w2.frozen? ⟨gx, 1, none⟩ = false ∧ gx < w2.heap.size := by
  have hk2 : KeptBut wr w2 (fun k => (Value.slice Ax n cx).ownBlock = some k) := (KeptBut.of_below ((Below.refl _ _).alloc (Nat.le_refl _) _)).then_grown hg (fun k e => e)
  have hXw := hX.keptB hk2 (own_blk_ne hI hX (by decide))
  exact ⟨hk2, hXw, hXw.cell 0, hXw.cell 1, hXw.frozen 1, hXw.lt⟩
set_option maxRecDepth 100000 in
set_option maxHeartbeats 4000000 in
theorem Open_any (s : ByteArray) (w : World) (hs : s.size ≤ 1048576) :
    Calls Tryd.prog 62 #[.string s] w fun e w' => OpenIs w (openB s.data.toList) e w' ∧ Below w.heap.size w w' := by
  obtain ⟨i0, hi0, hz0, hz1, hz2⟩ := info_parts int_info
  have hl := dlen s
  by_cases h4 : s.size < 4
  · have hR : openB s.data.toList = none := by
      unfold openB
      rw [show readBig (s.data.toList.drop (s.data.toList.length - 4)) 4 = none from by unfold readBig; rw [if_pos (.inr (.inr (by simp; omega)))]]
    have hx := ReadBig_none s 4 w (by unfold maxLen; omega) (by omega) (by omega) (by unfold readBig; rw [if_pos (.inr (.inr (by rw [dlen]; omega)))])
    have h4' : ((s.size : Nat) : Int) - 4 ≤ 0 := by omega
    have hmx : max (((s.size : Nat) : Int) - 4) 0 = 0 := by omega
    replace hR := Lib.hid hR
    replace hx := Lib.hid hx
    clear hl
    go_enter Tryd.func62, Tryd.ntmps62
    go_wp2_with fail
    refine hx.out.mono ?_
    rintro e w1 ⟨rfl, hb1⟩
    go_wp2_with fail
    go_ret2
    exact ⟨OpenIs.none_ hR.out, hb1⟩
  · obtain ⟨m, hm⟩ : ∃ m, s.size = m + 4 := ⟨s.size - 4, by omega⟩
    have hm0 : (0 : Int) ≤ (m : Int) := by omega
    have hsm : ((s.size : Nat) : Int) - 4 = (m : Nat) := by omega
    have hmx : max ((m : Nat) : Int) 0 = (m : Nat) := by omega
    obtain ⟨c, hc⟩ : ∃ c, readBig (s.data.toList.drop m) 4 = some c := by
      unfold readBig
      rw [if_neg (by simp; omega)]
      exact ⟨_, rfl⟩
    have hc4 := readBig4_lt hc
    have hdm : s.data.toList.length - 4 = m := by omega
    have hO : openB s.data.toList = if s.data.toList.length / 4 - 1 < (c + 3) / 4 then none else match rdB (s.data.toList.take (s.data.toList.length - 4 * ((c + 3) / 4 + 1))) c with
      | none => none
      | some (_, _, bb, es) => if bb.out = s.data.toList then some es else none := by
      unfold openB
      rw [hdm, hc]
      rfl
    rw [dlen] at hO
    have hx := ReadBig_some (s.extract m s.size) 4 c w (by unfold maxLen; simp; omega) (by omega) (by omega) (by rw [drop_data]; exact hc)
    replace hx := Lib.hid hx
    replace hc := Lib.hid hc
    have hw1 : IntKind.u64.wrap ((c : Int) + 4) = (c : Int) + 4 := by rw [IntKind.wrap_u64]; omega
    have hw2 : IntKind.u64.wrap ((c : Int) + 4 - 1) = (c : Int) + 3 := by rw [IntKind.wrap_u64]; omega
    have hw3 : ((c : Int) + 3) / 4 = (((c + 3) / 4 : Nat) : Int) := by omega
    have hw5 : ((s.size : Nat) : Int) / 4 = ((s.size / 4 : Nat) : Int) := by omega
    have hsq1 : 1 ≤ s.size / 4 ∧ 4 * (s.size / 4) ≤ s.size := by omega
    have hw4 : IntKind.u64.wrap (((s.size / 4 : Nat) : Int) - 1) = ((s.size / 4 : Nat) : Int) - 1 := by rw [IntKind.wrap_u64]; omega
    clear hl
    have hml : ((m : Nat) : Int) ≤ s.size := by omega
    have hst4 : 4 * ((c + 3) / 4) ≤ c + 3 ∧ c ≤ 4 * ((c + 3) / 4) := by omega
    generalize (c + 3) / 4 = st at *
    generalize s.size / 4 = sq at *
    have hms := Lib.hid hm
    clear hm hdm
    by_cases hbig : sq - 1 < st
    · rw [if_pos hbig] at hO
      have hbig' : ((sq : Nat) : Int) - 1 < (st : Int) := by omega
      replace hO := Lib.hid hO
      go_enter Tryd.func62, Tryd.ntmps62
      go_wp2_with fail
      refine hx.out.mono ?_
      rintro e w1 ⟨rfl, hb1⟩
      go_wp2_with fail
      go_ret2
      exact ⟨OpenIs.none_ hO.out, hb1⟩
    · rw [if_neg hbig] at hO
      have hbig' : ¬ ((sq : Nat) : Int) - 1 < (st : Int) := by omega
      have hst5 : st ≤ sq - 1 := by omega
      obtain ⟨ev, hev⟩ : ∃ ev, s.size = ev + 4 * (st + 1) := ⟨s.size - 4 * (st + 1), by have := hms.out; omega⟩
      have hev1 : s.size - 4 * (st + 1) = ev := by omega
      have hev2 : ((s.size : Nat) : Int) - 4 * ((st : Int) + 1) = (ev : Nat) := by omega
      have hev3 : ((ev : Nat) : Int) ≤ s.size := by omega
      have hcs : c ≤ 1048576 := by omega
      have hevb : ev ≤ 1048576 := by omega
      have hw6 : IntKind.u64.wrap ((st : Int) + 1) = ((st : Int) + 1) := by rw [IntKind.wrap_u64]; omega
      rw [hev1] at hO
      have hSd : (s.extract 0 ev) = bs (s.data.toList.take ev) := by rw [ext_bs]; simp
      have hSl : (s.data.toList.take ev).length = ev := by rw [List.length_take, dlen]; omega
      obtain ⟨S, hSt⟩ : ∃ S, s.data.toList.take ev = S := ⟨_, rfl⟩
      rw [hSt] at hO hSd hSl
      replace hSt := Lib.hid hSt
      replace hO := Lib.hid hO
      replace hev := Lib.hid hev
      clear hev1
      go_enter Tryd.func62, Tryd.ntmps62
      go_wp2_with fail
      refine hx.out.mono ?_
      rintro e w1 ⟨rfl, hb1⟩
      go_wp2_with fail
      replace hst4 := Lib.hid hst4
      replace hsq1 := Lib.hid hsq1
      clear hw1 hw2 hw3 hw4 hw5 hw6 hsm hmx hev2 hm0 hml hev3 hbig' hbig hst5
      go_loopw [10, 12, 59] (fun kv av iv wr => OInv w S c w1.heap.size (w1.heap.size + 1) kv av iv wr) (fun _ _ iv _ => c - (intOf iv).toNat)
      case atStart =>
        have hz1 := hb1.size
        have hBA : BBAt ((w1.alloc (.cells #[.string (bs S), .slice none 0 0, .int .i64 (c : Nat)] 118)).alloc (.cells #[.slice none 0 0, .slice none 0 0, .int .i64 0, .string ⟨#[]⟩] 64)) w.heap.size (w1.heap.size + 1) 64 0 #[.slice none 0 0, .slice none 0 0, .int .i64 0, .string ⟨#[]⟩] BB.new (.slice none 0 0) (.slice none 0 0) := by
          refine ⟨by omega, ?_, rfl, rfl, rfl, rfl, OwnB.nil _ _, World.ownsRow_nil _ _ _ 1, by decide, by decide⟩
          have := Blk.new (w1.alloc (.cells #[.string (bs S), .slice none 0 0, .int .i64 (c : Nat)] 118)) 64 #[.slice none 0 0, .slice none 0 0, .int .i64 0, .string ⟨#[]⟩]
          rwa [World.size_alloc] at this
        refine ⟨0, [], 0, BB.new, [], .slice none 0 0, .slice none 0 0, .slice none 0 0, _, Nat.zero_le _, rfl, rfl, rfl, RdB.nil _, (Blk.new w1 _ _).alloc _, World.ownsRow_nil _ _ _ 1, hBA, (fun k hk => by cases hk), ?_⟩
        exact (hb1.alloc (by omega) _).alloc (by rw [World.size_alloc]; omega) _
      case round =>
        obtain ⟨i, key, p, bb, es, vx, vb, vs, cs, hi, rfl, rfl, hrd, hkv, hX, hI, hA, hsep, hbr⟩ := hrel
        obtain ⟨l1, l2, l3, l4, l5, l6⟩ := rdB_le _ _ _ _ _ _ hrd
        obtain ⟨m1, m2, m3⟩ := rdB_spec _ _ _ _ _ _ hrd
        have hcnt : bb.count = i := by rw [m1, foldB_count, m3]
        have hsl := stR_len S i
        have hBs := hbr.size
        obtain ⟨Ak, ck, rfl, _, _⟩ := hkv.form
        by_cases hlt : i < c
        · have hlt' : (i : Int) < c := by omega
          replace hrd := Lib.hid hrd
          replace hsep := Lib.hid hsep
          by_cases hm4 : i % 4 = 0
          · have hm4' : (i : Int) % 4 = 0 := by omega
            have hst2 : stR S (i + 1) = stR S i ++ [p] := by
              rw [show stR S (i + 1) = stR S i ++ [atR S i] from if_pos hm4]
              unfold atR
              rw [hrd.out]
              rfl
            obtain ⟨Ax, cx, rfl⟩ := hI.form
            have x1 : wr.cell? ⟨w1.heap.size, 1, none⟩ = some (.slice Ax (stR S i).length cx) := hX.cell 1
            have hownx := World.ownsRow.alloc hI (.cells #[.int .i64 (p : Nat)] 3)
            have hrd2 := new_int wr (p : Nat) 3
            have hone : ∀ u ∈ [Value.int .i64 (p : Nat)], u.oneCell' = true := by
              intro u hu
              simp at hu
              subst hu
              rfl
            have hBx : w.heap.size ≤ (wr.alloc (.cells #[.int .i64 (p : Nat)] 3)).heap.size := by rw [World.size_alloc]; omega
            have hxl := hX.lt
            replace hone := Lib.hid hone
            replace hst2 := Lib.hid hst2
            go_wp2_with (at_builtin; refine wpList_append_any _ rfl (.tmp 69) (.tmp 71) 116 rfl w.heap.size 3 i0 (.int .i64 0) 1 8 Tryd.underlying116 hi0 hz0 hz1 hz2 rfl (by omega) (.slice Ax (stR S i).length cx) (stR S i).length ((stR S i).map fun n => Value.int .i64 (n : Nat)) rfl hownx (wr.heap.size + 1) (some ⟨wr.heap.size, 0, none⟩) 1 1 [.int .i64 (p : Nat)] rfl hrd2 hone.out (by unfold maxLen; omega) (by omega) hBx ?_; intro v2 w2 hown2 hgr2 hat2; have ho2 := OwnI.of_law hown2; obtain ⟨A2, c2, e2⟩ := ho2.form; rw [List.length_append, List.length_singleton] at e2; subst e2; obtain ⟨hk2, hXw, y0, y1, y2, yl⟩ := app_facts hX hI hgr2)
            have hz2' := hk2.size
            have hk3 : KeptBut wr (w2.setCell ⟨w1.heap.size, 1, none⟩ (.slice A2 ((stR S i).length + 1) c2)) (fun k => k = w1.heap.size ∨ (Value.slice Ax (stR S i).length cx).ownBlock = some k) := (hk2.mono (fun k _ e => .inr e)).then_set (.inl rfl)
            have hI2 : OwnI (w2.setCell ⟨w1.heap.size, 1, none⟩ (.slice A2 ((stR S i).length + 1) c2)) w.heap.size (.slice A2 ((stR S i).length + 1) c2) (stR S (i + 1)) := by
              rw [hst2.out]
              exact own_set ho2 hXw (by decide)
            have hX2 : Blk (w2.setCell ⟨w1.heap.size, 1, none⟩ (.slice A2 ((stR S i).length + 1) c2)) w1.heap.size 118 #[.string (bs S), .slice A2 ((stR S i).length + 1) c2, .int .i64 (c : Nat)] := hXw.set_ 1 _
            have hA2 := hA.kept hk3 (fun e => by
              rcases e with e | e
              · exact Blk.ne_ hA.blk hX (by decide) e
              · exact own_blk_ne hI hA.blk (by decide) e) (fun k hk e => by
              rcases e with e | e
              · exact own_blk_ne hA.ob hX (by decide) (by rw [hk, e])
              · exact own_types hA.ob hI (by decide) k hk e) (fun k hk e => by
              rcases e with e | e
              · exact own_blk_ne hA.os hX (by decide) (by rw [hk, e])
              · exact own_types hA.os hI (by decide) k hk e)
            have hkv2 := hkv.kept hk3 (fun k hk e => e.elim (hsep.out k hk).2.2.2.1 (hsep.out k hk).2.2.2.2)
            have hbr2 := hk3.below_of hbr (fun k e => by
              rcases e with e | e
              · have := hb1.size; omega
              · exact (own_lt hI k e).1)
            have hsep2 : ∀ k, (Value.slice Ak key.length ck).ownBlock = some k → vb.ownBlock ≠ some k ∧ k ≠ w1.heap.size + 1 ∧ vs.ownBlock ≠ some k ∧ k ≠ w1.heap.size ∧ (Value.slice A2 ((stR S i).length + 1) c2).ownBlock ≠ some k := by
              intro k hk
              obtain ⟨a1, a2, a3, a4, a5⟩ := hsep.out k hk
              refine ⟨a1, a2, a3, a4, fun e => ?_⟩
              rcases hat2 with e2 | e2
              · exact a5 (by rw [← e2]; exact e)
              · have e3 := Option.some.inj (e.symm.trans e2)
                have e4 := hkv.own k hk
                have e5 : (wr.alloc (Obj.cells #[Value.int .i64 (p : Nat)] 3)).heap.size = wr.heap.size + 1 := World.size_alloc _ _
                rw [e5] at e3
                omega
            clear hsep
            have hsep := Lib.hid hsep2
            clear hsep2
            replace hI2 := Lib.hid hI2
            replace hA2 := Lib.hid hA2
            replace hkv2 := Lib.hid hkv2
            replace hbr2 := Lib.hid hbr2
            clear hkv hI hA hX hbr hownx hrd2 hown2 hgr2 hat2 ho2 hXw hk2 hk3
            generalize w2.setCell ⟨w1.heap.size, 1, none⟩ (.slice A2 ((stR S i).length + 1) c2) = W2 at *
            obtain ⟨vx2, hvx2⟩ : ∃ x, x = Value.slice A2 ((stR S i).length + 1) c2 := ⟨_, rfl⟩
            rw [← hvx2] at hI2 hX2 hsep
            replace hvx2 := Lib.hid hvx2
            clear y0 y1 y2 yl x1
            have hnx := Lib.hid (next_any (bs S) p (.slice Ak key.length ck) key W2 hkv2.out (by rw [bs_size]; omega) (by rw [bs_size]; omega) (by omega))
            have z0 : W2.cell? ⟨w1.heap.size, 0, none⟩ = some (.string (bs S)) := hX2.cell 0
            have zl := hX2.lt
            try go_wp2_with fail
            refine hnx.out.mono ?_
            rintro e w3 ⟨hnr, hb3⟩
            rw [bs_data] at hnr
            cases hnp : nextP S p key with
            | none =>
              rw [hnp] at hnr
              obtain rfl := hnr
              go_wp2_with fail
              go_ret2
              refine ⟨OpenIs.none_ ?_, hbr2.out.trans (hb3.mono hbr2.out.size)⟩
              rw [hO.out, rdB_stop S c (i + 1) (by omega) (by rw [rdB_succ hrd.out, hnp])]
            | some r =>
              obtain ⟨k1, v1, q⟩ := r
              rw [hnp] at hnr
              obtain ⟨kv1, rfl, hr1, hm1⟩ := hnr
              have hk1l : k1.length ≤ 1099511627776 := by
                have := nextP_len hnp
                omega
              have hA3 := hA2.out.below hb3
              have hz3 := hb3.size
              have htx := hr1.text
              obtain ⟨A1, c1, rfl, _, _⟩ := hr1.form
              replace hr1 := Lib.hid hr1
              replace hm1 := Lib.hid hm1
              replace hnp := Lib.hid hnp
              have hq0 : ¬ ((q : Nat) : Int) < 0 := by omega
              by_cases her : bb.err k1 v1 = 0
              · have hadd := BAdd_ok hA3 (bs k1) (bs v1) (by rw [bs_data, bs_data]; exact her) (by have := hbr2.out.size; omega) (by omega) (by omega) (by omega) (by omega)
                rw [bs_data, bs_data] at hadd
                replace hadd := Lib.hid hadd
                replace hA3 := Lib.hid hA3
                replace her := Lib.hid her
                go_wp2_with fail
                refine hadd.out.mono ?_
                rintro e w4 ⟨rfl, vb4, vs4, hA4, hk4, hmb4, hms4⟩
                go_wp2_with fail
                have hz4 := hk4.size
                have hX4 : Blk w4 (w1.heap.size) 118 _ := (hX2.below hb3 hX2.lt).keptB hk4 (fun e => by
                  rcases e with e | e | e
                  · omega
                  · exact own_blk_ne hA2.out.ob hX2 (by decide) e
                  · exact own_blk_ne hA2.out.os hX2 (by decide) e)
                have hr4 : RdB w4 (.slice A1 k1.length c1) k1 := hr1.out.kept hk4 (fun k hk e => by
                  have hnew := hm1.out
                  rcases e with e | e | e
                  · rcases hnew with e1 | ⟨x, e1, hx⟩
                    · exact (hsep.out k (by rw [← e1]; exact hk)).2.1 e
                    · rw [hk] at e1
                      injection e1 with e1
                      have := hA2.out.blk.lt
                      omega
                  · rcases hnew with e1 | ⟨x, e1, hx⟩
                    · exact (hsep.out k (by rw [← e1]; exact hk)).1 e
                    · rw [hk] at e1
                      injection e1 with e1
                      have := (own_lt hA2.out.ob k e).2
                      omega
                  · rcases hnew with e1 | ⟨x, e1, hx⟩
                    · exact (hsep.out k (by rw [← e1]; exact hk)).2.2.1 e
                    · rw [hk] at e1
                      injection e1 with e1
                      have := (own_lt hA2.out.os k e).2
                      omega)
                have hI4 := own_kept (own_block hI2.out (fun k hk => hb3.block k (own_lt hI2.out k hk).2)) hk4 (fun k hk e => by
                  rcases e with e | e | e
                  · exact own_blk_ne hI2.out hA2.out.blk (by decide) (by rw [hk, e])
                  · exact own_types hI2.out hA2.out.ob (by decide) k hk e
                  · exact own_types hI2.out hA2.out.os (by decide) k hk e)
                refine ⟨⟨i + 1, k1, q, bb.put k1 v1, es ++ [(k1, v1)], vx2, vb4, vs4, _, by omega, by go_num, rfl, by rw [rdB_succ hrd.out, hnp.out]; simp only []; rw [if_pos her.out], hr4, hX4, hI4, hA4, fun k hk => ?_, ?_⟩, by first | omega | (simp only [intOf]; omega)⟩
                · have hk3 : k < w3.heap.size := hr1.out.own k hk
                  have hne : ∀ v v' : Value, Moved w3 v v' → v.ownBlock ≠ some k → v'.ownBlock ≠ some k := by
                    intro v v' hm hn e
                    rcases hm with e1 | ⟨x, e1, hx⟩
                    · exact hn (by rw [← e1]; exact e)
                    · rw [e] at e1
                      injection e1 with e1
                      omega
                  have hnew := hm1.out
                  refine ⟨hne _ _ hmb4 ?_, ?_, hne _ _ hms4 ?_, ?_, ?_⟩
                  · intro e
                    rcases hnew with e1 | ⟨x, e1, hx⟩
                    · exact (hsep.out k (by rw [← e1]; exact hk)).1 e
                    · rw [hk] at e1
                      injection e1 with e1
                      have := (own_lt hA2.out.ob k e).2
                      omega
                  · intro e
                    rcases hnew with e1 | ⟨x, e1, hx⟩
                    · exact (hsep.out k (by rw [← e1]; exact hk)).2.1 e
                    · rw [hk] at e1
                      injection e1 with e1
                      have := hA2.out.blk.lt
                      omega
                  · intro e
                    rcases hnew with e1 | ⟨x, e1, hx⟩
                    · exact (hsep.out k (by rw [← e1]; exact hk)).2.2.1 e
                    · rw [hk] at e1
                      injection e1 with e1
                      have := (own_lt hA2.out.os k e).2
                      omega
                  · intro e
                    rcases hnew with e1 | ⟨x, e1, hx⟩
                    · exact (hsep.out k (by rw [← e1]; exact hk)).2.2.2.1 e
                    · rw [hk] at e1
                      injection e1 with e1
                      omega
                  · intro e
                    rcases hnew with e1 | ⟨x, e1, hx⟩
                    · exact (hsep.out k (by rw [← e1]; exact hk)).2.2.2.2 e
                    · rw [hk] at e1
                      injection e1 with e1
                      have := (own_lt hI2.out k e).2
                      omega
                · refine hk4.below_of (hbr2.out.trans (hb3.mono hbr2.out.size)) (fun k e => ?_)
                  rcases e with e | e | e
                  · have := hA2.out.hB; omega
                  · exact (own_lt hA2.out.ob k e).1
                  · exact (own_lt hA2.out.os k e).1
              · have hadd := BAdd_err hA3 (bs k1) (bs v1) (by rw [bs_data, bs_data]; exact her)
                rw [bs_data, bs_data] at hadd
                obtain ⟨er, her2⟩ : ∃ er, er = bb.err k1 v1 := ⟨_, rfl⟩
                rw [← her2] at hadd
                have hne : ¬ ((er : Nat) : Int) = 0 := by omega
                have hb0 : (((er : Nat) : Int) != 0) = true := by simpa using hne
                replace her2 := Lib.hid her2
                replace hadd := Lib.hid hadd
                replace hA3 := Lib.hid hA3
                replace her := Lib.hid her
                go_wp2_with fail
                refine hadd.out.mono ?_
                rintro e w4 ⟨rfl, hb4⟩
                go_wp2_with fail
                go_ret2
                refine ⟨OpenIs.none_ ?_, (hbr2.out.trans (hb3.mono hbr2.out.size)).trans (hb4.mono (Nat.le_trans hbr2.out.size hz3))⟩
                rw [hO.out, rdB_stop S c (i + 1) (by omega) (by rw [rdB_succ hrd.out, hnp.out]; simp only []; rw [if_neg her.out])]
          · have hm4' : ¬ (i : Int) % 4 = 0 := by omega
            have hst2 : stR S (i + 1) = stR S i := if_neg hm4
            rw [← hst2] at hI
            obtain ⟨W2, hW2⟩ : ∃ x, x = wr := ⟨_, rfl⟩
            obtain ⟨vx2, hvx2⟩ : ∃ x, x = vx := ⟨_, rfl⟩
            subst hW2 hvx2
            have hI2 := Lib.hid hI
            have hA2 := Lib.hid hA
            have hkv2 := Lib.hid hkv
            have hX2 := hX
            have hbr2 := Lib.hid hbr
            replace hst2 := Lib.hid hst2
            clear hkv hI hA hX hbr
            have hnx := Lib.hid (next_any (bs S) p (.slice Ak key.length ck) key W2 hkv2.out (by rw [bs_size]; omega) (by rw [bs_size]; omega) (by omega))
            have z0 : W2.cell? ⟨w1.heap.size, 0, none⟩ = some (.string (bs S)) := hX2.cell 0
            have zl := hX2.lt
            try go_wp2_with fail
            refine hnx.out.mono ?_
            rintro e w3 ⟨hnr, hb3⟩
            rw [bs_data] at hnr
            cases hnp : nextP S p key with
            | none =>
              rw [hnp] at hnr
              obtain rfl := hnr
              go_wp2_with fail
              go_ret2
              refine ⟨OpenIs.none_ ?_, hbr2.out.trans (hb3.mono hbr2.out.size)⟩
              rw [hO.out, rdB_stop S c (i + 1) (by omega) (by rw [rdB_succ hrd.out, hnp])]
            | some r =>
              obtain ⟨k1, v1, q⟩ := r
              rw [hnp] at hnr
              obtain ⟨kv1, rfl, hr1, hm1⟩ := hnr
              have hk1l : k1.length ≤ 1099511627776 := by
                have := nextP_len hnp
                omega
              have hA3 := hA2.out.below hb3
              have hz3 := hb3.size
              have htx := hr1.text
              obtain ⟨A1, c1, rfl, _, _⟩ := hr1.form
              replace hr1 := Lib.hid hr1
              replace hm1 := Lib.hid hm1
              replace hnp := Lib.hid hnp
              have hq0 : ¬ ((q : Nat) : Int) < 0 := by omega
              by_cases her : bb.err k1 v1 = 0
              · have hadd := BAdd_ok hA3 (bs k1) (bs v1) (by rw [bs_data, bs_data]; exact her) (by have := hbr2.out.size; omega) (by omega) (by omega) (by omega) (by omega)
                rw [bs_data, bs_data] at hadd
                replace hadd := Lib.hid hadd
                replace hA3 := Lib.hid hA3
                replace her := Lib.hid her
                go_wp2_with fail
                refine hadd.out.mono ?_
                rintro e w4 ⟨rfl, vb4, vs4, hA4, hk4, hmb4, hms4⟩
                go_wp2_with fail
                have hz4 := hk4.size
                have hX4 : Blk w4 (w1.heap.size) 118 _ := (hX2.below hb3 hX2.lt).keptB hk4 (fun e => by
                  rcases e with e | e | e
                  · omega
                  · exact own_blk_ne hA2.out.ob hX2 (by decide) e
                  · exact own_blk_ne hA2.out.os hX2 (by decide) e)
                have hr4 : RdB w4 (.slice A1 k1.length c1) k1 := hr1.out.kept hk4 (fun k hk e => by
                  have hnew := hm1.out
                  rcases e with e | e | e
                  · rcases hnew with e1 | ⟨x, e1, hx⟩
                    · exact (hsep.out k (by rw [← e1]; exact hk)).2.1 e
                    · rw [hk] at e1
                      injection e1 with e1
                      have := hA2.out.blk.lt
                      omega
                  · rcases hnew with e1 | ⟨x, e1, hx⟩
                    · exact (hsep.out k (by rw [← e1]; exact hk)).1 e
                    · rw [hk] at e1
                      injection e1 with e1
                      have := (own_lt hA2.out.ob k e).2
                      omega
                  · rcases hnew with e1 | ⟨x, e1, hx⟩
                    · exact (hsep.out k (by rw [← e1]; exact hk)).2.2.1 e
                    · rw [hk] at e1
                      injection e1 with e1
                      have := (own_lt hA2.out.os k e).2
                      omega)
                have hI4 := own_kept (own_block hI2.out (fun k hk => hb3.block k (own_lt hI2.out k hk).2)) hk4 (fun k hk e => by
                  rcases e with e | e | e
                  · exact own_blk_ne hI2.out hA2.out.blk (by decide) (by rw [hk, e])
                  · exact own_types hI2.out hA2.out.ob (by decide) k hk e
                  · exact own_types hI2.out hA2.out.os (by decide) k hk e)
                refine ⟨⟨i + 1, k1, q, bb.put k1 v1, es ++ [(k1, v1)], vx2, vb4, vs4, _, by omega, by go_num, rfl, by rw [rdB_succ hrd.out, hnp.out]; simp only []; rw [if_pos her.out], hr4, hX4, hI4, hA4, fun k hk => ?_, ?_⟩, by first | omega | (simp only [intOf]; omega)⟩
                · have hk3 : k < w3.heap.size := hr1.out.own k hk
                  have hne : ∀ v v' : Value, Moved w3 v v' → v.ownBlock ≠ some k → v'.ownBlock ≠ some k := by
                    intro v v' hm hn e
                    rcases hm with e1 | ⟨x, e1, hx⟩
                    · exact hn (by rw [← e1]; exact e)
                    · rw [e] at e1
                      injection e1 with e1
                      omega
                  have hnew := hm1.out
                  refine ⟨hne _ _ hmb4 ?_, ?_, hne _ _ hms4 ?_, ?_, ?_⟩
                  · intro e
                    rcases hnew with e1 | ⟨x, e1, hx⟩
                    · exact (hsep.out k (by rw [← e1]; exact hk)).1 e
                    · rw [hk] at e1
                      injection e1 with e1
                      have := (own_lt hA2.out.ob k e).2
                      omega
                  · intro e
                    rcases hnew with e1 | ⟨x, e1, hx⟩
                    · exact (hsep.out k (by rw [← e1]; exact hk)).2.1 e
                    · rw [hk] at e1
                      injection e1 with e1
                      have := hA2.out.blk.lt
                      omega
                  · intro e
                    rcases hnew with e1 | ⟨x, e1, hx⟩
                    · exact (hsep.out k (by rw [← e1]; exact hk)).2.2.1 e
                    · rw [hk] at e1
                      injection e1 with e1
                      have := (own_lt hA2.out.os k e).2
                      omega
                  · intro e
                    rcases hnew with e1 | ⟨x, e1, hx⟩
                    · exact (hsep.out k (by rw [← e1]; exact hk)).2.2.2.1 e
                    · rw [hk] at e1
                      injection e1 with e1
                      omega
                  · intro e
                    rcases hnew with e1 | ⟨x, e1, hx⟩
                    · exact (hsep.out k (by rw [← e1]; exact hk)).2.2.2.2 e
                    · rw [hk] at e1
                      injection e1 with e1
                      have := (own_lt hI2.out k e).2
                      omega
                · refine hk4.below_of (hbr2.out.trans (hb3.mono hbr2.out.size)) (fun k e => ?_)
                  rcases e with e | e | e
                  · have := hA2.out.hB; omega
                  · exact (own_lt hA2.out.ob k e).1
                  · exact (own_lt hA2.out.os k e).1
              · have hadd := BAdd_err hA3 (bs k1) (bs v1) (by rw [bs_data, bs_data]; exact her)
                rw [bs_data, bs_data] at hadd
                obtain ⟨er, her2⟩ : ∃ er, er = bb.err k1 v1 := ⟨_, rfl⟩
                rw [← her2] at hadd
                have hne : ¬ ((er : Nat) : Int) = 0 := by omega
                have hb0 : (((er : Nat) : Int) != 0) = true := by simpa using hne
                replace her2 := Lib.hid her2
                replace hadd := Lib.hid hadd
                replace hA3 := Lib.hid hA3
                replace her := Lib.hid her
                go_wp2_with fail
                refine hadd.out.mono ?_
                rintro e w4 ⟨rfl, hb4⟩
                go_wp2_with fail
                go_ret2
                refine ⟨OpenIs.none_ ?_, (hbr2.out.trans (hb3.mono hbr2.out.size)).trans (hb4.mono (Nat.le_trans hbr2.out.size hz3))⟩
                rw [hO.out, rdB_stop S c (i + 1) (by omega) (by rw [rdB_succ hrd.out, hnp.out]; simp only []; rw [if_neg her.out])]
        · obtain rfl : i = c := by omega
          have hlt' : ¬ (i : Int) < i := by omega
          subst m1
          obtain ⟨hvb, hvl, hvs, hvc⟩ : (foldB es).b.length ≤ 1099511627776 ∧ (foldB es).starts.length ≤ 1099511627776 ∧ (∀ n ∈ (foldB es).starts, n < 4294967296) ∧ (foldB es).count < 4294967296 := ⟨by omega, by omega, fun n hn => by have := l6 n hn; omega, by omega⟩
          have hfin := BFinish_any hA hBs hvb hvl hvs hvc
          rw [hrd] at hO
          have hO2 : openB s.data.toList = if (foldB es).out = s.data.toList then some es else none := hO.out
          have hcmp : ((bs (foldB es).out).toList == s.toList) = decide ((foldB es).out = s.data.toList) := by
            rw [bs_toList, ByteArray.toList_eq]
            by_cases he : (foldB es).out = s.data.toList
            · rw [he]; simp
            · simp [he]
          replace hfin := Lib.hid hfin
          by_cases he : (foldB es).out = s.data.toList
          · rw [if_pos he] at hO2
            have hst6 := foldB_starts es
            have hS : S = (foldB es).b := by
              have h1 : s.data.toList.take ev = S := hSt.out
              have h2 := BB.out_len (foldB es)
              have h3 : s.data.toList.length = ev + 4 * (st + 1) := by rw [dlen]; exact hev.out
              have h4 := hst4.out
              rw [← he] at h1 h3
              unfold BB.size at h2
              rw [h3, hst6, m3] at h2
              rw [← h1]
              unfold BB.out
              rw [show ev = (foldB es).b.length from by omega, List.take_left]
            have hstr : stR S i = (foldB es).starts := by
              have := stR_fold m2 es.length (Nat.le_refl _)
              rw [List.take_length] at this
              rw [hS, ← m3]
              exact this
            have hdec : decide ((foldB es).out = s.data.toList) = true := by simpa using he
            rw [hdec] at hcmp
            replace hO2 := Lib.hid hO2
            replace hO := Lib.hid hO.out
            replace hS := Lib.hid hS
            replace hstr := Lib.hid hstr
            clear hdec he hst6
            go_wp2_with fail
            refine hfin.out.mono ?_
            rintro e w4 ⟨rfl, hA4, hk4⟩
            go_wp2_with fail
            go_ret2
            obtain ⟨Ax, cx, rfl⟩ := hI.form
            have hX4 := hX.keptB hk4 (fun e => by
              rcases e with e | e | e
              · omega
              · exact own_blk_ne hA.ob hX (by decide) e
              · exact own_blk_ne hA.os hX (by decide) e)
            have hI4 : OwnI w4 w.heap.size _ (stR S i) := own_kept hI hk4 (fun k hk e => by
              rcases e with e | e | e
              · exact own_blk_ne hI hA.blk (by decide) (by rw [hk, e])
              · exact own_types hI hA.ob (by decide) k hk e
              · exact own_types hI hA.os (by decide) k hk e)
            have hrd4 := Reads.of_own hI4
            rw [hstr.out] at hrd4 hX4
            rw [hS.out, ← m3] at hX4
            refine ⟨OpenIs.some_ hO2.out hb1.size ⟨Ax, cx, hX4, hrd4, ⟨m2, by omega, by rw [← hS.out]; omega⟩, hb1.size, fun ad e hn => by
              obtain ⟨g', cap', he', _, _⟩ := World.ownsRow.form hI4 (by rw [hstr.out]; exact hn)
              injection he' with he'
              rw [e] at he'
              injection he' with he'
              subst he'
              exact (own_lt hI4 g' (by rw [e]; rfl)).1⟩, hk4.below_of hbr (fun k e => ?_)⟩
            rcases e with e | e | e
            · have := hA.hB; omega
            · exact (own_lt hA.ob k e).1
            · exact (own_lt hA.os k e).1
          · rw [if_neg he] at hO2
            have hdec : decide ((foldB es).out = s.data.toList) = false := by simpa using he
            rw [hdec] at hcmp
            replace hO2 := Lib.hid hO2
            replace hO := Lib.hid hO.out
            clear hdec he
            go_wp2_with fail
            refine hfin.out.mono ?_
            rintro e w4 ⟨rfl, hA4, hk4⟩
            go_wp2_with fail
            go_ret2
            refine ⟨OpenIs.none_ hO2.out, hk4.below_of hbr (fun k e => ?_)⟩
            rcases e with e | e | e
            · have := hA.hB; omega
            · exact (own_lt hA.ob k e).1
            · exact (own_lt hA.os k e).1
end Go.Proofs.YtfnlponoakhegaaDoor
