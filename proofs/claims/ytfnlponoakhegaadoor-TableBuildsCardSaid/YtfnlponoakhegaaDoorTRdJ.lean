/- table.read. -/
import Derived.Test.YtfnlponoakhegaaDoorB18
import Derived.Test.YtfnlponoakhegaaDoorB04
namespace Go.Proofs.YtfnlponoakhegaaDoor
open Go.RowKit
set_option linter.unusedVariables false
set_option linter.unusedSimpArgs false
theorem ptr_info : (Tryd.prog.info? 77).map (fun i => (i.zero, i.size, i.bytes)) = some (some (.pointer none), 1, 8) := by kernel_rfl
def TIs (w : World) (o : Option (L × List (L × L) × List (List (L × L)))) (e : Ending) (w' : World) : Prop := match o with
  | none => e = .returned (.pointer none)
  | some t => ∃ gt, e = .returned (.pointer (some ⟨gt, 0, none⟩)) ∧ TTF (fun k => w.heap.size ≤ k) w' gt t.1 t.2.1 t.2.2
theorem TIs.none_ {w : World} {o : Option (L × List (L × L) × List (List (L × L)))} {w' : World} (h : o = none) : TIs w o (.returned (.pointer none)) w' := by subst h; rfl
theorem blocksT_cons {s : L} {n : Nat} {k v : L} {r : List (L × L)} : blocksT s n ((k, v) :: r) = match readVar v with
    | none => none
    | some (p, z) => match readVar (v.drop z) with
      | none => none
      | some (q, _) => if n < p ∨ n - p < q then none else
        match openB ((s.drop p).take q) with
        | none => none
        | some b => (blocksT s n r).map (b :: ·) := rfl
theorem blocksT_len : ∀ {s : L} {n : Nat} {ix : List (L × L)} {bls : List (List (L × L))}, blocksT s n ix = some bls → bls.length = ix.length
  | s, n, [], bls, h => by injection h with h; subst h; rfl
  | s, n, (k, v) :: r, bls, h => by
    rw [blocksT_cons] at h
    split at h
    · cases h
    · split at h
      · cases h
      · split at h
        · cases h
        · split at h
          · cases h
          · rename_i b _
            cases hr : blocksT s n r with
            | none => rw [hr] at h; cases h
            | some bl =>
              rw [hr] at h
              injection h with h
              subst h
              simp [blocksT_len hr]
theorem ext_data (s : ByteArray) (a b : Nat) : (s.extract a b).data.toList = (s.data.toList.drop a).take (b - a) := by rw [ext_bs, bs_data]
theorem TIs.some_ {w : World} {o : Option (L × List (L × L) × List (List (L × L)))} {w' : World} {f : L} {ix : List (L × L)} {bls : List (List (L × L))} {gt : Nat} (h : o = some (f, ix, bls)) (hk : TTF (fun k => w.heap.size ≤ k) w' gt f ix bls) : TIs w o (.returned (.pointer (some ⟨gt, 0, none⟩))) w' := by subst h; exact ⟨gt, rfl, hk⟩
def OwnP (w : World) (B : Nat) (v : Value) (l : List Nat) : Prop := w.ownsRow B 77 1 v l.length (l.map fun g => Value.pointer (some ⟨g, 0, none⟩))
theorem OwnP.form {w : World} {B : Nat} {v : Value} {l : List Nat} (h : OwnP w B v l) : ∃ A cap, v = .slice A l.length cap := by
  rcases h.2 with ⟨rfl, e⟩ | ⟨g, cap, cur, rfl, _⟩
  · exact ⟨none, 0, by rw [e]⟩
  · exact ⟨_, cap, rfl⟩
theorem OwnP.of_law {w : World} {B n : Nat} {v : Value} {l : List Nat} {m : Nat} (h : w.ownsRow B 77 1 v n ((l.map fun g => Value.pointer (some ⟨g, 0, none⟩)) ++ [.pointer (some ⟨m, 0, none⟩)])) : OwnP w B v (l ++ [m]) := by
  have hl : n = (l ++ [m]).length := by have := h.1; simp at this; simp; omega
  subst hl
  unfold OwnP
  rw [List.map_append]
  exact h
theorem new_ptr (w : World) (g : Nat) (t : TypeId) : Reads (w.alloc (.cells #[.pointer (some ⟨g, 0, none⟩)] t)) (w.heap.size + 1) 1 (some ⟨w.heap.size, 0, none⟩) 1 [.pointer (some ⟨g, 0, none⟩)] := by
  refine ⟨rfl, fun _ => ⟨_, rfl, by simp, fun j u hu => ?_⟩⟩
  rw [add_off, Nat.zero_add, (Blk.new w t #[.pointer (some ⟨g, 0, none⟩)]).cell j]
  simpa using hu
theorem app_factsT {wr w2 : World} {B gx n l cx : Nat} {Ax : Option Addr} {x0 x1 : Value} {xs : List Value} {o : Obj} (hX : Blk wr gx 80 #[x0, x1, .slice Ax n cx]) (hI : wr.ownsRow B 77 1 (.slice Ax n cx) l xs) (hg : (wr.alloc o).grownBy w2 (Value.slice Ax n cx).ownBlock) :
    KeptBut wr w2 (fun k => (Value.slice Ax n cx).ownBlock = some k) ∧ Blk w2 gx 80 #[x0, x1, .slice Ax n cx] ∧ w2.cell? ⟨gx, 0, none⟩ = some x0 ∧ w2.cell? ⟨gx, 2, none⟩ = some (.slice Ax n cx) ∧ w2.frozen? ⟨gx, 2, none⟩ = false ∧ gx < w2.heap.size := by
  have hk2 : KeptBut wr w2 (fun k => (Value.slice Ax n cx).ownBlock = some k) := (KeptBut.of_below ((Below.refl _ _).alloc (Nat.le_refl _) _)).then_grown hg (fun k e => e)
  have hXw := hX.keptB hk2 (own_blk_ne hI hX (by decide))
  exact ⟨hk2, hXw, hXw.cell 0, hXw.cell 2, hXw.frozen 2, hXw.lt⟩
/-- What the loop has behind i of the index's entries. -/
def RInv (w : World) (l : L) (n : Nat) (f : L) (ix : List (L × L)) (gt gi : Nat) (iv : Value) (wr : World) : Prop := ∃ i bls vs, ∃ gs : List Nat, i ≤ ix.length ∧ iv = .int .i64 (i : Nat) ∧ blocksT l n ix = (blocksT l n (ix.drop i)).map (bls ++ ·) ∧ gs.length = i ∧ bls.length = i ∧ Blk wr gt 80 #[.string (bs f), .pointer (some ⟨gi, 0, none⟩), vs] ∧ wr.ownsRow w.heap.size 77 1 vs gs.length (gs.map fun g => Value.pointer (some ⟨g, 0, none⟩)) ∧ BkF (fun k => w.heap.size ≤ k ∧ k ≠ gt ∧ vs.ownBlock ≠ some k) wr gi ix ∧ (∀ (j g : Nat) (b : List (L × L)), gs[j]? = some g → bls[j]? = some b → BkF (fun k => w.heap.size ≤ k ∧ k ≠ gt ∧ vs.ownBlock ≠ some k) wr g b) ∧ w.heap.size ≤ gt ∧ Below w.heap.size w wr
set_option maxRecDepth 100000 in
set_option maxHeartbeats 40000000 in
theorem read_any (s : ByteArray) (w : World) (hs : s.size ≤ 1048576) :
    Calls Tryd.prog 37 #[.string s] w fun e w' => TIs w (readT s.data.toList) e w' ∧ Below w.heap.size w w' := by
  obtain ⟨i0, hi0, hz0, hz1, hz2⟩ := info_parts ptr_info
  have hl := dlen s
  have hT : readT s.data.toList = readT s.data.toList := rfl
  conv at hT => rhs; unfold readT
  by_cases h16 : s.size < 16
  · have h16' : ((s.size : Nat) : Int) - 16 < 0 := by omega
    rw [if_pos (by omega)] at hT
    replace hT := Lib.hid hT
    clear hl
    go_enter Tryd.func37, Tryd.ntmps37
    go_wp2_with fail
    go_ret
    exact ⟨TIs.none_ hT.out, Below.refl _ _⟩
  · obtain ⟨m, hm⟩ : ∃ m, s.size = m + 16 := ⟨s.size - 16, by omega⟩
    have hm0 : ¬ (m : Int) < 0 := by omega
    have hsm : ((s.size : Nat) : Int) - 16 = (m : Nat) := by omega
    obtain ⟨m4, hm4⟩ : ∃ m4, m4 = m + 4 := ⟨_, rfl⟩
    have hsm4 : ((m : Nat) : Int) + 4 = ((m4 : Nat) : Int) := by omega
    have hml : ((m : Nat) : Int) ≤ s.size := by omega
    have hml4 : ((m4 : Nat) : Int) ≤ s.size := by omega
    have hmu : IntKind.u64.wrap ((m : Nat) : Int) = (m : Nat) := by rw [IntKind.wrap_u64]; omega
    rw [if_neg (by omega), show s.data.toList.length - 12 = m4 from by omega, show s.data.toList.length - 16 = m from by omega] at hT
    have hr1 : readBig (s.data.toList.drop m) 4 = some (beV ((s.data.toList.drop m).take 4)) := by
      unfold readBig
      rw [if_neg (by simp; omega)]
      rfl
    have hr2 : readBig (s.data.toList.drop m4) 4 = some (beV ((s.data.toList.drop m4).take 4)) := by
      unfold readBig
      rw [if_neg (by simp; omega)]
      rfl
    have hn4 := readBig4_lt hr1
    have hq4 := readBig4_lt hr2
    have hx1 := fun W => ReadBig_some (s.extract m s.size) 4 _ W (by unfold maxLen; simp; omega) (by omega) (by omega) (by rw [drop_data]; exact hr1)
    have hx2 := fun W => ReadBig_some (s.extract m4 s.size) 4 _ W (by unfold maxLen; simp; omega) (by omega) (by omega) (by rw [drop_data]; exact hr2)
    generalize beV ((s.data.toList.drop m).take 4) = n at *
    generalize beV ((s.data.toList.drop m4).take 4) = q at *
    replace hx1 := Lib.hid hx1
    replace hx2 := Lib.hid hx2
    replace hm := Lib.hid hm
    clear hr1 hr2 hl hm4
    by_cases hnq : q < n
    · have hnq' : ((q : Nat) : Int) < (n : Nat) := by omega
      rw [if_pos (.inl hnq)] at hT
      replace hT := Lib.hid hT
      go_enter Tryd.func37, Tryd.ntmps37
      go_wp2_with fail
      refine (hx1.out _).mono ?_
      rintro e w1 ⟨rfl, hb1⟩
      go_wp2_with fail
      refine (hx2.out _).mono ?_
      rintro e w2 ⟨rfl, hb2⟩
      go_wp2_with fail
      go_ret
      exact ⟨TIs.none_ hT.out, hb1.trans (hb2.mono hb1.size)⟩
    · by_cases hqm : m < q
      · have hnq' : ¬ ((q : Nat) : Int) < (n : Nat) := by omega
        have hqm' : ((m : Nat) : Int) < (q : Nat) := by omega
        rw [if_pos (.inr hqm)] at hT
        replace hT := Lib.hid hT
        go_enter Tryd.func37, Tryd.ntmps37
        go_wp2_with fail
        refine (hx1.out _).mono ?_
        rintro e w1 ⟨rfl, hb1⟩
        go_wp2_with fail
        refine (hx2.out _).mono ?_
        rintro e w2 ⟨rfl, hb2⟩
        go_wp2_with fail
        go_ret
        exact ⟨TIs.none_ hT.out, hb1.trans (hb2.mono hb1.size)⟩
      · have hnq' : ¬ ((q : Nat) : Int) < (n : Nat) := by omega
        have hqm' : ¬ ((m : Nat) : Int) < (q : Nat) := by omega
        have hnq2 : ((n : Nat) : Int) ≤ (q : Nat) := by omega
        have hqm2 : ((q : Nat) : Int) ≤ (m : Nat) := by omega
        have hql : ((q : Nat) : Int) ≤ s.size := by omega
        rw [if_neg (by omega)] at hT
        have hop := fun W => Open_any (s.extract q m) W (by simp; omega)
        rw [ext_data] at hop
        cases ho : openB ((s.data.toList.drop q).take (m - q)) with
        | none =>
          rw [ho] at hop hT
          have hT2 : readT s.data.toList = none := hT
          clear hT
          replace hT2 := Lib.hid hT2
          replace hop := Lib.hid hop
          go_enter Tryd.func37, Tryd.ntmps37
          go_wp2_with fail
          refine (hx1.out _).mono ?_
          rintro e w1 ⟨rfl, hb1⟩
          go_wp2_with fail
          refine (hx2.out _).mono ?_
          rintro e w2 ⟨rfl, hb2⟩
          have hb12 := hb1.trans (hb2.mono hb1.size)
          go_wp2_with fail
          refine (hop.out _).mono ?_
          rintro e w3 ⟨rfl, hb3⟩
          go_wp2_with fail
          go_ret
          exact ⟨TIs.none_ hT2.out, hb12.trans (hb3.mono hb12.size)⟩
        | some ix =>
          rw [ho] at hop hT
          have hT2 : readT s.data.toList = match blocksT s.data.toList n ix with
            | none => none
            | some bls => some ((s.data.toList.drop n).take (q - n), ix, bls) := hT
          clear hT ho
          replace hT2 := Lib.hid hT2
          replace hop := Lib.hid hop
          go_enter Tryd.func37, Tryd.ntmps37
          go_wp2_with fail
          refine (hx1.out _).mono ?_
          rintro e w1 ⟨rfl, hb1⟩
          go_wp2_with fail
          refine (hx2.out _).mono ?_
          rintro e w2 ⟨rfl, hb2⟩
          have hb12 := hb1.trans (hb2.mono hb1.size)
          go_wp2_with fail
          refine (hop.out _).mono ?_
          rintro e w3 ⟨⟨gi, rfl, hgi, hBi⟩, hb3⟩
          have hb13 := hb12.trans (hb3.mono hb12.size)
          have hgil := hBi.at_.lt
          have hz12 := hb12.size
          have hz3 := hb3.size
          have hixl : ix.length ≤ 1048576 := by obtain ⟨_, _, _, _, h3, _⟩ := hBi; exact h3.2.1
          have hfx : s.extract n q = bs ((s.data.toList.drop n).take (q - n)) := ext_bs s n q
          generalize (s.data.toList.drop n).take (q - n) = f at *
          have ha : Below w3.heap.size w3 (w3.alloc (.cells #[.string (bs f), .pointer (some ⟨gi, 0, none⟩), .slice none 0 0] 80)) := (Below.refl _ _).alloc (Nat.le_refl _) _
          have hX0 : Blk (w3.alloc (.cells #[.string (bs f), .pointer (some ⟨gi, 0, none⟩), .slice none 0 0] 80)) w3.heap.size 80 #[.string (bs f), .pointer (some ⟨gi, 0, none⟩), .slice none 0 0] := Blk.new _ _ _
          have hlen := Lib.hid (Len_any (hBi.at_.below ha))
          go_wp2_with fail
          refine hlen.out.mono ?_
          rintro e w4 ⟨rfl, hb4⟩
          have hX4 := hX0.below hb4 hX0.lt
          have hB4 : BkF (fun k => w.heap.size ≤ k ∧ k ≠ w3.heap.size ∧ (Value.slice none 0 0).ownBlock ≠ some k) w4 gi ix := by
            have h1 : BkF (fun k => w.heap.size ≤ k ∧ k ≠ w3.heap.size ∧ (Value.slice none 0 0).ownBlock ≠ some k) w3 gi ix := hBi.mono (fun k hk hq => ⟨by omega, by omega, by simp [Value.ownBlock]⟩)
            exact (h1.kept (KeptBut.of_below (S := fun _ => False) ha) (fun _ _ h => h)).kept (KeptBut.of_below (S := fun _ => False) hb4) (fun _ _ h => h)
          have hb14 := (hb13.trans (ha.mono hb13.size)).trans (hb4.mono (Nat.le_trans hb13.size ha.size))
          clear hlen hX0 ha hb1 hb2 hb3 hb12 hb4 hBi hop hx1 hx2 hgil hz12 hz3
          replace hfx := Lib.hid hfx
          have hgt : w.heap.size ≤ w3.heap.size := hb13.size
          generalize w3.heap.size = gt at *
          clear hb13
          have hnm : ((n : Nat) : Int) ≤ (m : Nat) := by omega
          go_wp2_with fail
          go_loopw [71] (fun iv wr => RInv w s.data.toList n f ix gt gi iv wr) (fun iv _ => ix.length - (intOf iv).toNat)
          case atStart =>
            refine ⟨0, [], .slice none 0 0, [], Nat.zero_le _, rfl, ?_, rfl, rfl, hX4, World.ownsRow_nil _ _ _ 1, hB4, fun j g b hg => (by simp at hg), hgt, hb14⟩
            rw [List.drop_zero]
            cases blocksT s.data.toList n ix <;> rfl
          case round =>
            obtain ⟨i, bls, vs, gs, hi, rfl, hbl, hgs, hbs, hX, hO, hBi, hBs, hgw, hbr⟩ := hrel
            have hzr := hbr.size
            have hbl' := hbl
            have hxl := hX.lt
            obtain ⟨Ax, cx, rfl⟩ : ∃ A cap, vs = .slice A gs.length cap := by
              rcases hO.2 with ⟨rfl, e⟩ | ⟨g, cap, cur, rfl, _⟩
              · exact ⟨none, 0, by rw [e]⟩
              · exact ⟨_, cap, rfl⟩
            by_cases hlt : i < ix.length
            · have hlt' : (i : Int) < ix.length := by omega
              obtain ⟨kx, vx, hix⟩ : ∃ k v, ix[i]? = some (k, v) := ⟨ix[i].1, ix[i].2, List.getElem?_eq_getElem hlt⟩
              have hdr : ix.drop i = (kx, vx) :: ix.drop (i + 1) := by
                rw [List.drop_eq_getElem_cons hlt]
                rw [List.getElem?_eq_getElem hlt] at hix
                injection hix with hix
                rw [hix]
              rw [hdr, blocksT_cons] at hbl
              have hvlen : vx.length ≤ 1024 := by
                obtain ⟨_, _, _, _, hv3, _⟩ := hBi
                exact (err_len (hv3.1 _ _ _ hix)).2
              have hat := Lib.hid (At_some hBi.at_ i kx vx hix)
              replace hdr := Lib.hid hdr
              replace hix := Lib.hid hix
              cases hrv : readVar vx with
              | none =>
                rw [hrv] at hbl
                have hR : readT s.data.toList = none := by
                  have e : blocksT s.data.toList n ix = none := hbl
                  rw [hT2.out, e]
                have hq1 := Lib.hid fun W => ReadVar_none (bs vx) W (by unfold maxLen; rw [bs_size]; omega) (by rw [bs_data]; exact hrv)
                have hvs : (0 : Int) ≤ ((bs vx).size : Nat) := by omega
                replace hbl := Lib.hid hbl
                replace hbl' := Lib.hid hbl'
                replace hrv := Lib.hid hrv
                clear hBi hBs hO
                go_wp2_with fail
                refine hat.out.mono ?_
                rintro e w5 ⟨rfl, hb5⟩
                unfold AtV
                go_wp2_with fail
                refine (hq1.out _).mono ?_
                rintro e w6 ⟨rfl, hb6⟩
                go_wp2_with fail
                refine (hq1.out _).mono ?_
                rintro e w7 ⟨rfl, hb7⟩
                go_wp2_with fail
                go_ret
                exact ⟨TIs.none_ hR, ((hbr.trans (hb5.mono hbr.size)).trans (hb6.mono (by have := hb5.size; omega))).trans (hb7.mono (by have := hb5.size; have := hb6.size; omega))⟩
              | some pz =>
                obtain ⟨p, z⟩ := pz
                rw [hrv] at hbl
                replace hbl : blocksT s.data.toList n ix = (match readVar (vx.drop z) with
                  | none => none
                  | some (q, _) => if n < p ∨ n - p < q then none else
                    match openB ((s.data.toList.drop p).take q) with
                    | none => none
                    | some b => (blocksT s.data.toList n (ix.drop (i + 1))).map (b :: ·)).map (bls ++ ·) := hbl
                obtain ⟨z1, z2, p64⟩ := readVar_le hrv
                have hq1 := Lib.hid fun W => ReadVar_some (bs vx) p z W (by unfold maxLen; rw [bs_size]; omega) (by rw [bs_data]; exact hrv)
                have hvs : ((z : Nat) : Int) ≤ ((bs vx).size : Nat) := by rw [bs_size]; omega
                replace hrv := Lib.hid hrv
                cases hrq : readVar (vx.drop z) with
                | none =>
                  rw [hrq] at hbl
                  have hR : readT s.data.toList = none := by
                    have e : blocksT s.data.toList n ix = none := hbl
                    rw [hT2.out, e]
                  have hq2 := Lib.hid fun W => ReadVar_none ((bs vx).extract z (bs vx).size) W (by unfold maxLen; simp; rw [bs_size]; omega) (by rw [drop_data, bs_data]; exact hrq)
                  replace hbl := Lib.hid hbl
                  replace hbl' := Lib.hid hbl'
                  replace hrq := Lib.hid hrq
                  clear hBi hBs hO
                  go_wp2_with fail
                  refine hat.out.mono ?_
                  rintro e w5 ⟨rfl, hb5⟩
                  unfold AtV
                  go_wp2_with fail
                  refine (hq1.out _).mono ?_
                  rintro e w6 ⟨rfl, hb6⟩
                  go_wp2_with fail
                  refine (hq2.out _).mono ?_
                  rintro e w7 ⟨rfl, hb7⟩
                  go_wp2_with fail
                  go_ret
                  exact ⟨TIs.none_ hR, ((hbr.trans (hb5.mono hbr.size)).trans (hb6.mono (by have := hb5.size; omega))).trans (hb7.mono (by have := hb5.size; have := hb6.size; omega))⟩
                | some qz =>
                  obtain ⟨q2, zz⟩ := qz
                  rw [hrq] at hbl
                  replace hbl : blocksT s.data.toList n ix = (if n < p ∨ n - p < q2 then none else
                    match openB ((s.data.toList.drop p).take q2) with
                    | none => none
                    | some b => (blocksT s.data.toList n (ix.drop (i + 1))).map (b :: ·)).map (bls ++ ·) := hbl
                  obtain ⟨_, _, q64⟩ := readVar_le hrq
                  have hq2 := Lib.hid fun W => ReadVar_some ((bs vx).extract z (bs vx).size) q2 zz W (by unfold maxLen; simp; rw [bs_size]; omega) (by rw [drop_data, bs_data]; exact hrq)
                  replace hrq := Lib.hid hrq
                  by_cases hnp : n < p
                  · have hnp' : ((n : Nat) : Int) < (p : Nat) := by omega
                    rw [if_pos (.inl hnp)] at hbl
                    have hR : readT s.data.toList = none := by
                      have e : blocksT s.data.toList n ix = none := hbl
                      rw [hT2.out, e]
                    replace hbl := Lib.hid hbl
                    replace hbl' := Lib.hid hbl'
                    clear hBi hBs hO
                    go_wp2_with fail
                    refine hat.out.mono ?_
                    rintro e w5 ⟨rfl, hb5⟩
                    unfold AtV
                    go_wp2_with fail
                    refine (hq1.out _).mono ?_
                    rintro e w6 ⟨rfl, hb6⟩
                    go_wp2_with fail
                    refine (hq2.out _).mono ?_
                    rintro e w7 ⟨rfl, hb7⟩
                    go_wp2_with fail
                    go_ret
                    exact ⟨TIs.none_ hR, ((hbr.trans (hb5.mono hbr.size)).trans (hb6.mono (by have := hb5.size; omega))).trans (hb7.mono (by have := hb5.size; have := hb6.size; omega))⟩
                  · have hnp' : ¬ ((n : Nat) : Int) < (p : Nat) := by omega
                    obtain ⟨d, hd⟩ : ∃ d, n = p + d := ⟨n - p, by omega⟩
                    have hwd : IntKind.u64.wrap (((n : Nat) : Int) - ((p : Nat) : Int)) = ((d : Nat) : Int) := by rw [IntKind.wrap_u64]; omega
                    have hdn : n - p = d := by omega
                    rw [hdn] at hbl
                    by_cases hdq : d < q2
                    · have hdq' : ((d : Nat) : Int) < (q2 : Nat) := by omega
                      rw [if_pos (.inr hdq)] at hbl
                      have hR : readT s.data.toList = none := by
                        have e : blocksT s.data.toList n ix = none := hbl
                        rw [hT2.out, e]
                      replace hbl := Lib.hid hbl
                      replace hbl' := Lib.hid hbl'
                      replace hd := Lib.hid hd
                      replace hdn := Lib.hid hdn
                      clear hBi hBs hO
                      go_wp2_with fail
                      refine hat.out.mono ?_
                      rintro e w5 ⟨rfl, hb5⟩
                      unfold AtV
                      go_wp2_with fail
                      refine (hq1.out _).mono ?_
                      rintro e w6 ⟨rfl, hb6⟩
                      go_wp2_with fail
                      refine (hq2.out _).mono ?_
                      rintro e w7 ⟨rfl, hb7⟩
                      go_wp2_with fail
                      go_ret
                      exact ⟨TIs.none_ hR, ((hbr.trans (hb5.mono hbr.size)).trans (hb6.mono (by have := hb5.size; omega))).trans (hb7.mono (by have := hb5.size; have := hb6.size; omega))⟩
                    · have hdq' : ¬ ((d : Nat) : Int) < (q2 : Nat) := by omega
                      rw [if_neg (by omega)] at hbl
                      obtain ⟨pq, hpq⟩ : ∃ pq, pq = p + q2 := ⟨_, rfl⟩
                      have hwp : IntKind.u64.wrap (((p : Nat) : Int) + ((q2 : Nat) : Int)) = ((pq : Nat) : Int) := by rw [IntKind.wrap_u64]; omega
                      have hs1 : ((p : Nat) : Int) ≤ (pq : Nat) := by omega
                      have hs2 : ((pq : Nat) : Int) ≤ s.size := by omega
                      have hop2 := fun W => Open_any (s.extract p pq) W (by simp; omega)
                      rw [ext_data, show pq - p = q2 from by omega] at hop2
                      replace hd := Lib.hid hd
                      replace hdn := Lib.hid hdn
                      replace hpq := Lib.hid hpq
                      cases hob : openB ((s.data.toList.drop p).take q2) with
                      | none =>
                        rw [hob] at hbl hop2
                        have hR : readT s.data.toList = none := by
                          have e : blocksT s.data.toList n ix = none := hbl
                          rw [hT2.out, e]
                        replace hbl := Lib.hid hbl
                        replace hbl' := Lib.hid hbl'
                        replace hop2 := Lib.hid hop2
                        replace hob := Lib.hid hob
                        clear hBi hBs hO
                        go_wp2_with fail
                        refine hat.out.mono ?_
                        rintro e w5 ⟨rfl, hb5⟩
                        unfold AtV
                        go_wp2_with fail
                        refine (hq1.out _).mono ?_
                        rintro e w6 ⟨rfl, hb6⟩
                        go_wp2_with fail
                        refine (hq2.out _).mono ?_
                        rintro e w7 ⟨rfl, hb7⟩
                        have hb57 := ((hbr.trans (hb5.mono hbr.size)).trans (hb6.mono (by have := hb5.size; omega))).trans (hb7.mono (by have := hb5.size; have := hb6.size; omega))
                        go_wp2_with fail
                        refine (hop2.out _).mono ?_
                        rintro e w8 ⟨rfl, hb8⟩
                        go_wp2_with fail
                        go_ret
                        exact ⟨TIs.none_ hR, hb57.trans (hb8.mono hb57.size)⟩
                      | some es =>
                        rw [hob] at hbl hop2
                        replace hbl : blocksT s.data.toList n ix = ((blocksT s.data.toList n (ix.drop (i + 1))).map (es :: ·)).map (bls ++ ·) := hbl
                        replace hbl : blocksT s.data.toList n ix = (blocksT s.data.toList n (ix.drop (i + 1))).map ((bls ++ [es]) ++ ·) := by
                          rw [hbl]
                          cases blocksT s.data.toList n (ix.drop (i + 1)) <;> simp
                        replace hbl := Lib.hid hbl
                        replace hbl' := Lib.hid hbl'
                        replace hop2 := Lib.hid hop2
                        replace hob := Lib.hid hob
                        have hBi' := Lib.hid hBi
                        have hBs' := Lib.hid hBs
                        have hO' := Lib.hid hO
                        have hgl : gs.length ≤ 1048576 := by
                          have h9 : ix.length ≤ 1048576 := by
                            obtain ⟨_, _, _, _, h3, _⟩ := hBi'.out
                            exact h3.2.1
                          omega
                        replace hgs := Lib.hid hgs
                        replace hbs := Lib.hid hbs
                        clear hBi hBs hO
                        go_wp2_with fail
                        refine hat.out.mono ?_
                        rintro e w5 ⟨rfl, hb5⟩
                        unfold AtV
                        go_wp2_with fail
                        refine (hq1.out _).mono ?_
                        rintro e w6 ⟨rfl, hb6⟩
                        go_wp2_with fail
                        refine (hq2.out _).mono ?_
                        rintro e w7 ⟨rfl, hb7⟩
                        have hr57 := (hb5.trans (hb6.mono hb5.size)).trans (hb7.mono (by have := hb5.size; have := hb6.size; omega))
                        go_wp2_with fail
                        refine (hop2.out _).mono ?_
                        rintro e w8 ⟨⟨gx, rfl, hgx, hBx⟩, hb8⟩
                        have hr58 := hr57.trans (hb8.mono hr57.size)
                        have hb08 := hbr.trans (hr58.mono hbr.size)
                        have hX8 := hX.below hr58 hX.lt
                        have hO8 : w8.ownsRow w.heap.size 77 1 (.slice Ax gs.length cx) gs.length (gs.map fun g => Value.pointer (some ⟨g, 0, none⟩)) := own_block hO'.out (fun k hk => hr58.block k (own_lt hO'.out k hk).2)
                        have hBi8 := hBi'.out.kept (KeptBut.of_below (S := fun _ => False) hr58) (fun _ _ h => h)
                        have hBs8 : ∀ (j g : Nat) (b : List (L × L)), gs[j]? = some g → bls[j]? = some b → BkF (fun k => w.heap.size ≤ k ∧ k ≠ gt ∧ (Value.slice Ax gs.length cx).ownBlock ≠ some k) w8 g b := fun j g b h1 h2 => (hBs'.out j g b h1 h2).kept (KeptBut.of_below (S := fun _ => False) hr58) (fun _ _ h => h)
                        have hBx8 : BkF (fun k => w.heap.size ≤ k ∧ k ≠ gt ∧ (Value.slice Ax gs.length cx).ownBlock ≠ some k) w8 gx es := hBx.mono (fun k hk hq => by
                          have h7 := hr57.size
                          exact ⟨by omega, by omega, fun e => by have := (own_lt hO'.out k e).2; omega⟩)
                        have hz08 := hb08.size
                        have x2 : w8.cell? ⟨gt, 2, none⟩ = some (.slice Ax gs.length cx) := hX8.cell 2
                        have hownx := World.ownsRow.alloc hO8 (.cells #[.pointer (some ⟨gx, 0, none⟩)] 77)
                        have hrd2 := new_ptr w8 gx 77
                        have hone : ∀ u ∈ [Value.pointer (some ⟨gx, 0, none⟩)], u.oneCell' = true := by
                          intro u hu
                          simp at hu
                          subst hu
                          rfl
                        have hBw : w.heap.size ≤ (w8.alloc (.cells #[.pointer (some ⟨gx, 0, none⟩)] 77)).heap.size := by rw [World.size_alloc]; omega
                        have hxl8 := hX8.lt
                        replace hone := Lib.hid hone
                        clear hBx hBi' hBs' hO' hX hb5 hb6 hb7 hb8 hr57 hr58 hbr
                        go_wp2_with (at_builtin; refine wpList_append_any _ rfl (.tmp 129) (.tmp 131) 78 rfl w.heap.size 77 i0 (.pointer none) 1 8 Tryd.underlying78 hi0 hz0 hz1 hz2 rfl (by omega) (.slice Ax gs.length cx) gs.length (gs.map fun g => Value.pointer (some ⟨g, 0, none⟩)) rfl hownx (w8.heap.size + 1) (some ⟨w8.heap.size, 0, none⟩) 1 1 [.pointer (some ⟨gx, 0, none⟩)] rfl hrd2 hone.out (by unfold maxLen; omega) (by omega) hBw ?_; intro v2 w2 hown2 hgr2 hat2; have ho2 := OwnP.of_law hown2; obtain ⟨A2, c2, e2⟩ := ho2.form; rw [List.length_append, List.length_singleton] at e2; subst e2; obtain ⟨hk2, hXw, y0, y1, y2, yl⟩ := app_factsT hX8 hO8 hgr2)
                        replace hgs := hgs.out
                        replace hbs := hbs.out
                        have hz2' := hk2.size
                        have hk3 : KeptBut w8 (w2.setCell ⟨gt, 2, none⟩ (.slice A2 (gs.length + 1) c2)) (fun k => k = gt ∨ (Value.slice Ax gs.length cx).ownBlock = some k) := (hk2.mono (fun k _ e => .inr e)).then_set (.inl rfl)
                        have hO2 : OwnP (w2.setCell ⟨gt, 2, none⟩ (.slice A2 (gs.length + 1) c2)) w.heap.size (.slice A2 (gs.length + 1) c2) (gs ++ [gx]) := own_set ho2 hXw (by decide)
                        have hX2 : Blk (w2.setCell ⟨gt, 2, none⟩ (.slice A2 (gs.length + 1) c2)) gt 80 #[.string (bs f), .pointer (some ⟨gi, 0, none⟩), .slice A2 (gs.length + 1) c2] := hXw.set_ 2 _
                        have hup : ∀ {g : Nat} {b : List (L × L)}, BkF (fun k => w.heap.size ≤ k ∧ k ≠ gt ∧ (Value.slice Ax gs.length cx).ownBlock ≠ some k) w8 g b → BkF (fun k => w.heap.size ≤ k ∧ k ≠ gt ∧ (Value.slice A2 (gs.length + 1) c2).ownBlock ≠ some k) (w2.setCell ⟨gt, 2, none⟩ (.slice A2 (gs.length + 1) c2)) g b := by
                          intro g b hgb
                          have h1 : BkF (fun k => (w.heap.size ≤ k ∧ k ≠ gt ∧ (Value.slice Ax gs.length cx).ownBlock ≠ some k) ∧ (Value.slice A2 (gs.length + 1) c2).ownBlock ≠ some k) w8 g b := hgb.mono (fun k hk hq => ⟨hq, fun e => by
                            rcases hat2 with e2 | e2
                            · exact hq.2.2 (by rw [← e2]; exact e)
                            · have e3 := Option.some.inj (e.symm.trans e2)
                              have e5 : (w8.alloc (Obj.cells #[Value.pointer (some ⟨gx, 0, none⟩)] 77)).heap.size = w8.heap.size + 1 := World.size_alloc _ _
                              rw [e5] at e3
                              omega⟩)
                          exact (h1.kept hk3 (fun k hq e => e.elim hq.1.2.1 hq.1.2.2)).mono (fun k _ hq => ⟨hq.1.1, hq.1.2.1, hq.2⟩)
                        have hb2 := hk3.below_of hb08 (fun k e => by
                          rcases e with e | e
                          · omega
                          · exact (own_lt hO8 k e).1)
                        refine ⟨⟨i + 1, bls ++ [es], .slice A2 (gs.length + 1) c2, gs ++ [gx], by omega, by go_num, hbl.out, by simp [hgs], by simp [hbs], hX2, hO2, hup hBi8, fun j g b hg hb => ?_, hgw, hb2⟩, by first | omega | (simp only [intOf]; omega)⟩
                        rcases Nat.lt_or_ge j i with hj | hj
                        · rw [List.getElem?_append_left (by omega)] at hg hb
                          exact hup (hBs8 j g b hg hb)
                        · rw [List.getElem?_append_right (by omega)] at hg hb
                          rw [hgs] at hg
                          rw [hbs] at hb
                          rcases hji : j - i with _ | x
                          · rw [hji] at hg hb
                            simp at hg hb
                            subst hg hb
                            exact hup hBx8
                          · rw [hji] at hg
                            simp at hg
            · obtain rfl : i = ix.length := by omega
              have hlt' : ¬ ((ix.length : Nat) : Int) < (ix.length : Nat) := by omega
              have hfin : blocksT s.data.toList n ix = some bls := by
                rw [hbl, List.drop_length]
                show some (bls ++ []) = some bls
                rw [List.append_nil]
              have hR : readT s.data.toList = some (f, ix, bls) := by rw [hT2.out, hfin]
              replace hR := Lib.hid hR
              replace hfin := Lib.hid hfin
              replace hbl := Lib.hid hbl
              replace hbl' := Lib.hid hbl'
              go_wp2_with fail
              go_ret
              refine ⟨TIs.some_ hR.out ⟨gi, Ax, cx, gs, hX, hBi.mono (fun k _ hq => hq.1), Reads.of_own hO, by omega, fun j g b hg hb => (hBs j g b hg hb).mono (fun k _ hq => hq.1), hgw, fun ad e hn => ?_⟩, hbr⟩
              obtain ⟨g', cap', he', _, _⟩ := World.ownsRow.form hO hn
              injection he' with he'
              rw [e] at he'
              injection he' with he'
              subst he'
              exact (own_lt hO g' (by rw [e]; rfl)).1
end Go.Proofs.YtfnlponoakhegaaDoor
