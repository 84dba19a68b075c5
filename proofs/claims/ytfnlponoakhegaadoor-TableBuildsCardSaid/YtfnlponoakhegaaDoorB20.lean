/- strings.Builder whose row is known by name: WriteString, String. table.Table: Get. table.Open. Package table, plain: what the laws build. table.Table: Range, All. table.Open: the walk. The laws' own functions: small, Built. The document's numbers and texts: Var, Text, One, Internal. awake. -/
import Derived.Test.YtfnlponoakhegaaDoorB16
import Derived.Test.YtfnlponoakhegaaDoorTRdJ
import Derived.Test.YtfnlponoakhegaaDoorB01
import Derived.Test.YtfnlponoakhegaaDoorB18
import Derived.Test.YtfnlponoakhegaaDoorB04
import Derived.Test.YtfnlponoakhegaaDoorB02
namespace Go.Proofs.YtfnlponoakhegaaDoor
open Go.RowKit
set_option linter.unusedVariables false
set_option linter.unusedSimpArgs false
def SBv (w : World) (b : Nat) (v : Value) (l : L) : Prop := (∃ p, (p = .pointer none ∨ p = .pointer (some ⟨b, 0, none⟩)) ∧ w.heap[b]? = some (.cells #[p, v] 88 (0, 0))) ∧ OwnB w 0 v l ∧ v.ownBlock ≠ some b
theorem SBv.lt {w : World} {b : Nat} {v : Value} {l : L} (h : SBv w b v l) : b < w.heap.size := by
  obtain ⟨⟨p, _, hb⟩, _⟩ := h
  rcases Nat.lt_or_ge b w.heap.size with h' | h'
  · exact h'
  · rw [Array.getElem?_eq_none h'] at hb; cases hb
theorem SBv.new (w : World) : SBv (w.alloc (.cells #[.pointer none, .slice none 0 0] 88)) w.heap.size (.slice none 0 0) [] :=
  ⟨⟨_, .inl rfl, heap_alloc_new w _⟩, OwnB.nil _ _, by simp [Value.ownBlock]⟩
theorem SBv.kept {w w' : World} {S : Nat → Prop} {b : Nat} {v : Value} {l : L} (h : SBv w b v l) (hk : KeptBut w w' S) (hb : ¬ S b) (hv : ∀ k, v.ownBlock = some k → ¬ S k) : SBv w' b v l := by
  have hlt := h.lt
  obtain ⟨⟨p, hp, hbk⟩, ho, hn⟩ := h
  exact ⟨⟨p, hp, (hk.block b hlt hb).trans hbk⟩, own_kept ho hk hv, hn⟩
theorem SBv.isB {w : World} {B b : Nat} {v : Value} {l : L} (h : SBv w b v l) (hB : B ≤ b) (hv : ∀ k, v.ownBlock = some k → B ≤ k) : IsB B b l w := by
  obtain ⟨⟨p, hp, hbk⟩, ho, hn⟩ := h
  have ho2 : w.ownsRow B 5 1 v (Lib.byteCells l).length (Lib.byteCells l) := by
    have e : Lib.byteCells l = l.map B8 := rfl
    rw [e, List.length_map]
    refine ⟨ho.1, ho.2.imp id ?_⟩
    rintro ⟨g, cap, cur, e1, h1, rest⟩
    exact ⟨g, cap, cur, e1, hv g (by rw [e1]; rfl), rest⟩
  rcases hp with rfl | rfl
  · exact .inl ⟨hB, v, hbk, ho2, hn⟩
  · exact .inr ⟨hB, v, hbk, ho2, hn⟩
theorem check_v {w : World} {b : Nat} {v : Value} {l : L} (h : SBv w b v l) :
    Calls Tryd.prog 64 #[.pointer (some ⟨b, 0, none⟩)] w fun e w' => e = .returned (.tuple #[]) ∧ w'.heap[b]? = some (.cells #[.pointer (some ⟨b, 0, none⟩), v] 88 (0, 0)) ∧ OwnB w' 0 v l ∧ KeptBut w w' (fun k => k = b) := by
  obtain ⟨⟨p, hp, hbk⟩, ho, hn⟩ := h
  have hB : Lib.IsBuilder 88 5 0 b (Lib.byteCells l) w := SBv.isB ⟨⟨p, hp, hbk⟩, ho, hn⟩ (Nat.zero_le _) (fun _ _ => Nat.zero_le _)
  rcases hp with rfl | rfl
  · have h0 : w.cell? ⟨b, 0, none⟩ = some (.pointer none) := by rw [Lib.cell_of_heap hbk]; rfl
    have h1 : w.shape? b = some (88, 2) := by simp [World.shape?, hbk]
    refine (copyCheck_fresh b w h0 h1 (Lib.frozen_of_heap hbk 0)).mono ?_
    rintro e w' ⟨rfl, rfl⟩
    have hk : KeptBut w (w.setCell ⟨b, 0, none⟩ (.pointer (some ⟨b, 0, none⟩))) (fun k => k = b) := (KeptBut.refl w _).then_set rfl
    refine ⟨rfl, ?_, own_kept ho hk (fun k e1 e2 => hn (by rw [e1, e2])), hk⟩
    have := Blk.set_ (show Blk w b 88 #[.pointer none, v] from hbk) 0 (.pointer (some ⟨b, 0, none⟩))
    simpa [Blk] using this
  · have h0 : w.cell? ⟨b, 0, none⟩ = some (.pointer (some ⟨b, 0, none⟩)) := by rw [Lib.cell_of_heap hbk]; rfl
    refine (copyCheck_used b w h0).mono ?_
    rintro e w' ⟨rfl, rfl⟩
    exact ⟨rfl, hbk, ho, KeptBut.refl _ _⟩
set_option maxHeartbeats 2000000 in
set_option maxRecDepth 100000 in
theorem write_v {w : World} {b : Nat} {v : Value} {l : L} (h : SBv w b v l) (s : L) (hlen : l.length + s.length ≤ 70368744177664) :
    Calls Tryd.prog 39 #[.pointer (some ⟨b, 0, none⟩), .string (bs s)] w fun e w' => e = .returned (.tuple #[.int .i64 s.length, .nilIface]) ∧ ∃ v', SBv w' b v' (l ++ s) ∧ Mv w v v' ∧ KeptBut w w' (fun k => k = b ∨ v.ownBlock = some k) := by
  obtain ⟨i0, hi, hz0, hz1, hz2⟩ := info_parts u8_info
  have hne := h.2.2
  have hsz : (bs s).size = s.length := bs_size s
  have hc := Lib.hid (check_v h)
  go_enter Tryd.func39, Tryd.ntmps39
  go_wp2_with fail
  refine hc.out.mono ?_
  rintro e w1 ⟨rfl, hbk, hown, hk1⟩
  have c0 : w1.cell? ⟨b, 0, none⟩ = some (.pointer (some ⟨b, 0, none⟩)) := by rw [Lib.cell_of_heap hbk]; rfl
  have c1 : w1.cell? ⟨b, 1, none⟩ = some v := by rw [Lib.cell_of_heap hbk]; rfl
  replace hown := Lib.hid hown
  obtain ⟨Av, nv, cv, rfl⟩ : ∃ A n c, v = .slice A n c := by
    rcases hown.out.2 with ⟨rfl, _⟩ | ⟨g, cap, cur, rfl, _⟩
    · exact ⟨_, _, _, rfl⟩
    · exact ⟨_, _, _, rfl⟩
  go_wp2_with (at_builtin; refine wpList_append_str rfl _ _ rfl 0 _ l rfl hown.out (bs s) rfl ?c3 (Nat.zero_le _) ?_)
  case c3 => rw [hsz]; omega
  intro v' w2 hown' hgrow hat
  rw [bs_data] at hown'
  obtain ⟨ao, n', cap, rfl⟩ : ∃ ao n' cap, v' = .slice ao n' cap := by
    rcases hown'.2 with ⟨hv, _⟩ | ⟨g, cap, cur, hv, _⟩
    · exact ⟨_, _, _, hv⟩
    · exact ⟨_, _, _, hv⟩
  have hlt : b < w1.heap.size := by
    rcases Nat.lt_or_ge b w1.heap.size with h' | h'
    · exact h'
    · rw [Array.getElem?_eq_none h'] at hbk; cases hbk
  have hb2 : Blk w2 b 88 #[.pointer (some ⟨b, 0, none⟩), .slice Av nv cv] := (hgrow.block b hlt (fun e => hne e.symm)).trans hbk
  have d0 : w2.cell? ⟨b, 0, none⟩ = some (.pointer (some ⟨b, 0, none⟩)) := hb2.cell 0
  have d1 : w2.cell? ⟨b, 1, none⟩ = some (.slice Av nv cv) := hb2.cell 1
  have f1 : w2.frozen? ⟨b, 1, none⟩ = false := hb2.frozen 1
  have hl2 := hb2.lt
  have hsz1 := hk1.size
  have hK : KeptBut w (w2.setCell ⟨b, 1, none⟩ (.slice ao n' cap)) (fun k => k = b ∨ (Value.slice Av nv cv).ownBlock = some k) :=
    ((hk1.mono (fun k _ e => .inl e)).then_grown hgrow (fun k e => .inr e)).then_set (.inl rfl)
  have hmv : Mv w (.slice Av nv cv) (.slice ao n' cap) := fun k e => (hat k e).imp id (fun e => by omega)
  have hne' : (Value.slice ao n' cap).ownBlock ≠ some b := fun e => by
    rcases hat b e with e1 | e1
    · exact hne e1
    · omega
  have hS : SBv (w2.setCell ⟨b, 1, none⟩ (.slice ao n' cap)) b (.slice ao n' cap) (l ++ s) := by
    refine ⟨⟨_, .inr rfl, ?_⟩, own_kept hown' ((KeptBut.refl w2 (fun k => k = b)).then_set rfl) (fun k e1 e2 => hne' (by rw [e1, e2])), hne'⟩
    have := hb2.set_ 1 (.slice ao n' cap)
    simpa [Blk] using this
  replace hS := Lib.hid hS
  replace hK := Lib.hid hK
  replace hmv := Lib.hid hmv
  replace hgrow := Lib.hid hgrow
  replace hat := Lib.hid hat
  clear hbk c0 c1 hc
  go_wp2
  go_ret2
  exact ⟨rfl, _, hS.out, hmv.out, hK.out⟩
theorem string_v {w : World} {B b : Nat} {v : Value} {l : L} (h : SBv w b v l) (hB : B ≤ b) (hv : ∀ k, v.ownBlock = some k → B ≤ k) :
    Calls Tryd.prog 40 #[.pointer (some ⟨b, 0, none⟩)] w fun e w' => e = .returned (.string (bs l)) ∧ Below B w w' :=
  Tryd.Builder_String_any B b l w (h.isB hB hv) (Nat.le_trans hB (Nat.le_of_lt h.lt))
theorem At_opt {w : World} {gx : Nat} {es : List (L × L)} (h : BkAt w gx es) (i : Nat) (hi2 : i ≤ 4611686018427387904) :
    Calls Tryd.prog 35 #[.pointer (some ⟨gx, 0, none⟩), .int .i64 (i : Nat)] w fun e w' => e = .returned (AtV es[i]?) ∧ Below w.heap.size w w' := by
  cases he : es[i]? with
  | none => exact At_none h i (List.getElem?_eq_none_iff.1 he) hi2
  | some r => exact At_some h i r.1 r.2 he
theorem bk_small {w : World} {gx : Nat} {es : List (L × L)} (h : BkAt w gx es) {i : Nat} {k v : L} (he : es[i]? = some (k, v)) : k.length ≤ 1024 ∧ v.length ≤ 1024 := by
  obtain ⟨A, cap, hX, hr, hv, hl1, hl2⟩ := h
  exact err_len (hv _ _ _ he)
theorem ent_set0 {w : World} {g t : Nat} {cs : Array Value} (h : Blk w g t cs) (hs : cs.size = 4) : Blk ((((w.setCell ⟨g, 0, none⟩ (.string ⟨#[]⟩)).setCell ⟨g, 1, none⟩ (.string ⟨#[]⟩)).setCell ⟨g, 2, none⟩ (.int .u64 0)).setCell ⟨g, 3, none⟩ (.bool false)) g t (entC ent0) := ent_set h hs ent0
theorem At_kv {w : World} {gx : Nat} {es : List (L × L)} (h : BkAt w gx es) (i : Nat) (hi2 : i ≤ 4611686018427387904) :
    Calls Tryd.prog 35 #[.pointer (some ⟨gx, 0, none⟩), .int .i64 (i : Nat)] w fun e w' => e = .returned (.tuple #[.string (bs (es[i]?.getD ([], [])).1), .string (bs (es[i]?.getD ([], [])).2), .bool es[i]?.isSome]) ∧ Below w.heap.size w w' := by
  refine (At_opt h i hi2).mono ?_
  rintro e w' ⟨rfl, hb⟩
  refine ⟨?_, hb⟩
  cases es[i]? <;> rfl
theorem bk_kv {w : World} {gx : Nat} {es : List (L × L)} (h : BkAt w gx es) (i : Nat) : (es[i]?.getD ([], [])).1.length ≤ 1024 ∧ (es[i]?.getD ([], [])).2.length ≤ 1024 := by
  cases he : es[i]? with
  | none => simp
  | some r => exact bk_small h he
theorem getP_kv (f : L) (ix : List (L × L)) (bls : List (List (L × L))) (key : L) (at_ : Nat) : getP f ix bls key at_ = if mayL f key = true then match bls[seekP ix (internalL key at_)]? with
    | none => none
    | some b => match entryP (b[seekP b (internalL key at_)]?.getD ([], [])).1 (b[seekP b (internalL key at_)]?.getD ([], [])).2 with
        | some e => if e.key = key then some e else none
        | none => none
  else none := by
  unfold getP
  split
  · cases hq : bls[seekP ix (internalL key at_)]? with
    | none => rfl
    | some b =>
      simp only []
      cases b[seekP b (internalL key at_)]? with
      | none => rfl
      | some r => rfl
  · rfl
set_option maxRecDepth 100000 in
set_option maxHeartbeats 1000000 in
theorem Get_any {w : World} {gt : Nat} {f : L} {ix : List (L × L)} {bls : List (List (L × L))} (h : TTAt w gt f ix bls) (hl : bls.length = ix.length) (hf : f.length ≤ 68719476736) (hG : Gl w) (key : ByteArray) (hk : key.size ≤ 1048576) (at_ : Nat) (hat : at_ < 18446744073709551616) :
    Calls Tryd.prog 11 #[.pointer (some ⟨gt, 0, none⟩), .string key, .int .u64 (at_ : Nat)] w fun e w' => e = .returned (entV (getP f ix bls key.data.toList at_)) ∧ Below w.heap.size w w' := by
  have hP := getP_kv f ix bls key.data.toList at_
  obtain ⟨gi, A, cap, gs, hB, hI, hr, hgl, hbk⟩ := id h
  have c1 : w.cell? ⟨gt, 1, none⟩ = some (.pointer (some ⟨gi, 0, none⟩)) := hB.cell 1
  have c2 : w.cell? ⟨gt, 2, none⟩ = some (.slice A gs.length cap) := hB.cell 2
  have hlt := hB.lt
  have hGl := hG.lt
  have hA : Below w.heap.size w (w.alloc (.cells (entC ent0) 33)) := (Below.refl _ _).alloc (Nat.le_refl _) _
  have hR0 : Blk (w.alloc (.cells (entC ent0) 33)) w.heap.size 33 (entC ent0) := Blk.new _ _ _
  have hmay := Lib.hid (tMay_any (h.below hA) hf key (by omega))
  have hint := Lib.hid fun W (hW : Gl W) => Internal_any key at_ W hW hk hat
  have hsle := seekP_le ix (internalL key.data.toList at_)
  have hixl : ix.length ≤ 1048576 := by obtain ⟨_, _, _, _, _, h3, _⟩ := hI; exact h3
  generalize internalL key.data.toList at_ = want at *
  rcases hm : mayL f key.data.toList with _ | _
  · rw [hm] at hP hmay
    rw [if_neg (by decide)] at hP
    replace hm := Lib.hid hm
    replace hP := Lib.hid hP
    go_enter Tryd.func11, Tryd.ntmps11
    go_wp2_with fail
    refine hmay.out.mono ?_
    rintro e w1 ⟨rfl, hb1⟩
    have hz1 := hb1.size
    have hb01 := hA.trans (hb1.mono hA.size)
    have hR1 := hR0.below hb1 hR0.lt
    have hfin := ent_set0 hR1 rfl
    have z0 := (hR1).cell 0
    have z1 := (hR1).cell 1
    have z2 := (hR1).cell 2
    have z3 := (hR1).cell 3
    have y0 := (hR1).frozen 0
    have y1 := (hR1).frozen 1
    have y2 := (hR1).frozen 2
    have y3 := (hR1).frozen 3
    have zl := (hR1).lt
    have hbb := hb01
    replace hfin := Lib.hid hfin
    replace hbb := Lib.hid hbb
    simp only [entC, ent0] at z0 z1 z2 z3
    go_wp2_with fail
    exact bodyPost_ret (v := entV none) (results_row_tmp rfl _ _ w.heap.size (.agg (entC ent0)) (.bool false) rfl rfl (load_ent hfin.out rfl)) rfl ⟨by rw [hP.out], (((hbb.out.setCell (Nat.le_refl _) _).setCell (Nat.le_refl _) _).setCell (Nat.le_refl _) _).setCell (Nat.le_refl _) _⟩
  · rw [hm] at hP hmay
    rw [if_pos rfl] at hP
    replace hm := Lib.hid hm
    replace hP := Lib.hid hP
    go_enter Tryd.func11, Tryd.ntmps11
    go_wp2_with fail
    refine hmay.out.mono ?_
    rintro e w1 ⟨rfl, hb1⟩
    have hb01 := hA.trans (hb1.mono hA.size)
    have hR1 := hR0.below hb1 hR0.lt
    have hz01 := hb01.size
    clear hb1
    go_wp2_with fail
    refine (hint.out w1 (hG.below hb01 hGl)).mono ?_
    rintro e w2 ⟨rfl, hb2⟩
    have hb02 := hb01.trans (hb2.mono hz01)
    have hR2 := hR1.below hb2 hR1.lt
    have hz02 := hb02.size
    clear hb2 hb01 hR1 hz01
    have d1 := (hb02.cell (p := ⟨gt, 1, none⟩) hlt).trans c1
    have hsk := Lib.hid (Seek_any (hI.below hb02) want)
    go_wp2_with fail
    refine hsk.out.mono ?_
    rintro e w3 ⟨rfl, hb3⟩
    have hb03 := hb02.trans (hb3.mono hz02)
    have hR3 := hR2.below hb3 hR2.lt
    have hz03 := hb03.size
    clear hb3 hb02 hR2 hz02 d1 hsk
    have d2 := (hb03.cell (p := ⟨gt, 2, none⟩) hlt).trans c2
    have hl3 : gt < w3.heap.size := by omega
    generalize seekP ix want = i at *
    by_cases hie : i = ix.length
    · have hie' : ((i : Nat) : Int) = (gs.length : Nat) := by omega
      have hq : bls[i]? = none := List.getElem?_eq_none_iff.2 (by omega)
      rw [hq] at hP
      replace hq := Lib.hid hq
      replace hie := Lib.hid hie
      have hfin := ent_set0 hR3 rfl
      have z0 := (hR3).cell 0
      have z1 := (hR3).cell 1
      have z2 := (hR3).cell 2
      have z3 := (hR3).cell 3
      have y0 := (hR3).frozen 0
      have y1 := (hR3).frozen 1
      have y2 := (hR3).frozen 2
      have y3 := (hR3).frozen 3
      have zl := (hR3).lt
      have hbb := hb03
      replace hfin := Lib.hid hfin
      replace hbb := Lib.hid hbb
      simp only [entC, ent0] at z0 z1 z2 z3
      go_wp2_with fail
      exact bodyPost_ret (v := entV none) (results_row_tmp rfl _ _ w.heap.size (.agg (entC ent0)) (.bool false) rfl rfl (load_ent hfin.out rfl)) rfl ⟨by rw [hP.out], (((hbb.out.setCell (Nat.le_refl _) _).setCell (Nat.le_refl _) _).setCell (Nat.le_refl _) _).setCell (Nat.le_refl _) _⟩
    · have hie' : ¬ ((i : Nat) : Int) = (gs.length : Nat) := by omega
      have hilt : i < gs.length := by omega
      have hilt' : ((i : Nat) : Int) < (gs.length : Nat) := by omega
      obtain ⟨g, hg⟩ : ∃ g, gs[i]? = some g := ⟨_, List.getElem?_eq_getElem hilt⟩
      obtain ⟨b, hb⟩ : ∃ b, bls[i]? = some b := ⟨_, List.getElem?_eq_getElem (by omega)⟩
      have hbg := hbk i g b hg hb
      obtain ⟨ad, u, rfl, hadB, hu, hcell⟩ := hr.at_ hilt
      rw [List.getElem?_map, hg] at hu
      injection hu with hu
      subst hu
      obtain ⟨ad0, u0, e0, _, _, hc0⟩ := hr.at_ (k := 0) (by omega)
      injection e0 with e0
      subst e0
      obtain ⟨bb, oo, rfl⟩ := plain_cell hc0
      clear hc0
      rw [add_off] at hcell
      have hadB' : bb < w.heap.size := hadB
      have d3 := (hb03.cell (p := ⟨bb, oo + i, none⟩) hadB').trans hcell
      have hl4 : bb < w3.heap.size := by omega
      have hbg3 := hbg.below hb03
      have hskb := Lib.hid fun W (hW : Below w3.heap.size w3 W) => Seek_any (hbg3.below hW) want
      have hsb := seekP_le b want
      have hbl : b.length ≤ 1048576 := by obtain ⟨_, _, _, _, _, h3, _⟩ := hbg; exact h3
      have hatb := Lib.hid fun W (hW : Below w3.heap.size w3 W) => At_kv (hbg3.below hW) (seekP b want) (by omega)
      obtain ⟨hkl, hvl⟩ := bk_kv hbg (seekP b want)
      replace hP := hP.out
      rw [hb] at hP
      simp only [] at hP
      generalize seekP b want = j at *
      generalize b[j]?.isSome = jo at *
      generalize (b[j]?.getD ([], [])).1 = kk at *
      generalize (b[j]?.getD ([], [])).2 = vv at *
      have hent := Lib.hid fun W => entry_any (bs kk) (bs vv) W (by rw [bs_size]; omega) (by rw [bs_size]; omega)
      rw [bs_data, bs_data] at hent
      replace hb := Lib.hid hb
      replace hg := Lib.hid hg
      go_wp2_with fail
      have hxc := @Ext.cell
      refine wp_region_ext (by kernel_rfl) (by kernel_rfl) ?_
      repeat (go_big_quiet_step ((first | (go_at_call 34; exact Calls.ext (hskb.out _ (Ext.below _))) | (go_at_call 35; exact Calls.ext (hatb.out _ (Ext.below _))))))
      refine wpQuiet_nil ?_
      clear hxc
      intro wx hwx
      obtain ⟨x, hx⟩ := hwx
      have hb := x.below
      rw [← hx] at hb
      clear hx x
      have hb04 := hb03.trans (hb.mono hz03)
      have hR4 := hR3.below hb hR3.lt
      have hz04 := hb04.size
      clear hb hb03 hR3 d2 d3 hl3 hl4 hskb hatb hz03
      go_wp2_with fail
      refine (hent.out _).mono ?_
      rintro e w5 ⟨rfl, hb5⟩
      have hb05 := hb04.trans (hb5.mono hz04)
      have hR5 := hR4.below hb5 hR4.lt
      have hz05 := hb05.size
      clear hb5 hb04 hR4 hz04 hent
      obtain ⟨eo, heo⟩ : ∃ eo : Ent, eo = (entryP kk vv).getD ent0 := ⟨_, rfl⟩
      replace heo := Lib.hid heo
      have z0 := hR5.cell 0
      have z1 := hR5.cell 1
      have z2 := hR5.cell 2
      have z3 := hR5.cell 3
      have y0 := hR5.frozen 0
      have y1 := hR5.frozen 1
      have y2 := hR5.frozen 2
      have y3 := hR5.frozen 3
      have zl := hR5.lt
      simp only [entC, ent0] at z0 z1 z2 z3
      rcases hpe : entryP kk vv with _ | en
      · rw [hpe] at hP
        have he0 : eo = ent0 := by rw [heo.out, hpe]; rfl
        subst he0
        have hfin := (ent_set0 hR5 rfl).below ((Below.refl _ _).alloc (Nat.le_refl _) (.cells (entC ent0) 33)) (ent_set0 hR5 rfl).lt
        replace hfin := Lib.hid hfin
        replace hP := Lib.hid hP
        replace hpe := Lib.hid hpe
        unfold entV
        simp only [Option.getD, Option.isSome]
        unfold entC ent0
        go_wp2_with fail
        exact bodyPost_ret (v := entV none) (results_row_tmp rfl _ _ w.heap.size (.agg (entC ent0)) (.bool false) rfl rfl (load_ent hfin.out rfl)) rfl ⟨by rw [hP.out], ((((hb05.setCell (Nat.le_refl _) _).setCell (Nat.le_refl _) _).setCell (Nat.le_refl _) _).setCell (Nat.le_refl _) _).alloc (by simp only [World.size_setCell]; omega) _⟩
      · rw [hpe] at hP
        have he0 : eo = en := by rw [heo.out, hpe]; rfl
        subst he0
        replace hpe := Lib.hid hpe
        simp only [] at hP
        by_cases hke : eo.key = key.data.toList
        · rw [if_pos hke] at hP
          have hkb : ((bs eo.key).toList == key.toList) = true := by rw [bs_toList, ByteArray.toList_eq, hke]; simp
          have hfin := (ent_set hR5 rfl eo).below ((Below.refl _ _).alloc (Nat.le_refl _) (.cells (entC eo) 33)) (ent_set hR5 rfl eo).lt
          replace hfin := Lib.hid hfin
          replace hP := Lib.hid hP
          replace hke := Lib.hid hke
          unfold entV
          simp only [Option.getD, Option.isSome]
          unfold entC
          go_wp2_with fail
          exact bodyPost_ret (v := entV (some eo)) (results_row_tmp rfl _ _ w.heap.size (.agg (entC eo)) (.bool true) rfl rfl (load_ent hfin.out rfl)) rfl ⟨by rw [hP.out], ((((hb05.setCell (Nat.le_refl _) _).setCell (Nat.le_refl _) _).setCell (Nat.le_refl _) _).setCell (Nat.le_refl _) _).alloc (by simp only [World.size_setCell]; omega) _⟩
        · rw [if_neg hke] at hP
          have hkb : ((bs eo.key).toList == key.toList) = false := by rw [bs_toList, ByteArray.toList_eq]; simpa using hke
          have hfin := (ent_set0 hR5 rfl).below ((Below.refl _ _).alloc (Nat.le_refl _) (.cells (entC eo) 33)) (ent_set0 hR5 rfl).lt
          replace hfin := Lib.hid hfin
          replace hP := Lib.hid hP
          replace hke := Lib.hid hke
          unfold entV
          simp only [Option.getD, Option.isSome]
          unfold entC
          go_wp2_with fail
          exact bodyPost_ret (v := entV none) (results_row_tmp rfl _ _ w.heap.size (.agg (entC ent0)) (.bool false) rfl rfl (load_ent hfin.out rfl)) rfl ⟨by rw [hP.out], ((((hb05.setCell (Nat.le_refl _) _).setCell (Nat.le_refl _) _).setCell (Nat.le_refl _) _).setCell (Nat.le_refl _) _).alloc (by simp only [World.size_setCell]; omega) _⟩
theorem enc_three (s : BB) (k v : L) : 3 ≤ (s.enc k v).length := by
  unfold BB.enc
  have h1 := varL1_pos (s.lead k)
  have h2 := varL1_pos (k.drop (s.lead k)).length
  have h3 := varL1_pos v.length
  simp only [List.length_append, textL]
  omega
theorem foldB_three (es : List (L × L)) : 3 * es.length ≤ (foldB es).b.length := by
  induction es using snocRec with
  | nil => simp
  | snoc es e ih =>
    rw [foldB_snoc]
    unfold BB.put
    have := enc_three (foldB es) e.1 e.2
    simp only [List.length_append, List.length_singleton]
    omega
theorem openB_len {s : L} {es : List (L × L)} (h : openB s = some es) : 3 * es.length ≤ s.length := by
  obtain ⟨_, h2⟩ := openB_some h
  rw [← h2, BB.out_len]
  have := foldB_three es
  unfold BB.size
  omega
theorem blocksT_small : ∀ {s : L} {n : Nat} {ix : List (L × L)} {bls : List (List (L × L))}, blocksT s n ix = some bls → ∀ b ∈ bls, 3 * b.length ≤ s.length
  | s, n, [], bls, h, b, hb => by injection h with h; subst h; cases hb
  | s, n, (k, v) :: r, bls, h, b, hb => by
    rw [blocksT_cons] at h
    split at h
    · cases h
    · split at h
      · cases h
      · split at h
        · cases h
        · split at h
          · cases h
          · rename_i b0 hb0
            cases hr : blocksT s n r with
            | none => rw [hr] at h; cases h
            | some bl =>
              rw [hr] at h
              injection h with h
              subst h
              rcases List.mem_cons.1 hb with rfl | hb
              · have := openB_len hb0
                rw [List.length_take, List.length_drop] at this
                omega
              · exact blocksT_small hr b hb
theorem readT_small {s : L} {f : L} {ix : List (L × L)} {bls : List (List (L × L))} (h : readT s = some (f, ix, bls)) : f.length ≤ s.length ∧ 3 * ix.length ≤ s.length ∧ bls.length = ix.length ∧ ∀ b ∈ bls, 3 * b.length ≤ s.length := by
  unfold readT at h
  split at h
  · cases h
  · split at h
    · cases h
    · split at h
      · cases h
      · rename_i ix' hix
        split at h
        · cases h
        · rename_i bls' hbl
          injection h with h
          injection h with h1 h2
          injection h2 with h2 h3
          subst h1 h2 h3
          refine ⟨?_, ?_, blocksT_len hbl, blocksT_small hbl⟩
          · rw [List.length_take, List.length_drop]; omega
          · have := openB_len hix
            rw [List.length_take, List.length_drop] at this
            omega
theorem TBIn.cut {w : World} {F : Nat → Prop} {g : Nat} {s : TB} (h : TBIn w F g s) : TBIn w (fun k => F k ∧ k < w.heap.size) g s := by
  obtain ⟨vb1, vs1, vb2, vs2, vk, vp, hT, hF⟩ := h
  refine ⟨vb1, vs1, vb2, vs2, vk, vp, hT, fun k hk => ⟨hF k hk, ?_⟩⟩
  rcases hk with rfl | hk | hk | hk | hk | hk | hk
  · exact hT.blk.lt
  · exact (own_lt hT.o1 k hk).2
  · exact (own_lt hT.p1 k hk).2
  · exact (own_lt hT.o2 k hk).2
  · exact (own_lt hT.p2 k hk).2
  · exact (own_lt hT.ok k hk).2
  · exact (own_lt hT.op k hk).2
/-- What Open's loops have: a builder under way, and the pieces so far. -/
def OSt (w1 wr : World) (gb b : Nat) (tb : TB) (out : L) (N : Nat) : Prop := ∃ v, ∃ F : Nat → Prop, ∃ own bl cu, TBIn wr F gb tb ∧ SBv wr b v out ∧ (∀ k, F k → w1.heap.size ≤ k ∧ k ≠ b ∧ v.ownBlock ≠ some k) ∧ w1.heap.size ≤ b ∧ (∀ k, v.ownBlock = some k → w1.heap.size ≤ k) ∧ RunI 0 0 own tb out bl cu ∧ (foldB cu).size < 256 ∧ own.length ≤ N ∧ Below w1.heap.size w1 wr
theorem OSt.bel {w1 wr : World} {gb b : Nat} {tb : TB} {out : L} {N : Nat} (h : OSt w1 wr gb b tb out N) : Below w1.heap.size w1 wr := by
  obtain ⟨v, F, own, bl, cu, h1, h2, h3, h4, h5, h6, h7, h8, h9⟩ := h
  exact h9
theorem OSt.below {w1 wr w' : World} {gb b : Nat} {tb : TB} {out : L} {N : Nat} (h : OSt w1 wr gb b tb out N) (hb : Below wr.heap.size wr w') : OSt w1 w' gb b tb out N := by
  obtain ⟨v, F, own, bl, cu, h1, h2, h3, h4, h5, h6, h7, h8, h9⟩ := h
  exact ⟨v, F, own, bl, cu, h1.below hb, h2.kept (KeptBut.of_below (S := fun _ => False) hb) (fun h => h) (fun _ _ h => h), h3, h4, h5, h6, h7, h8, h9.trans (hb.mono h9.size)⟩
theorem OSt.more {w1 wr : World} {gb b : Nat} {tb : TB} {out : L} {N M : Nat} (h : OSt w1 wr gb b tb out N) (hM : N ≤ M) : OSt w1 wr gb b tb out M := by
  obtain ⟨v, F, own, bl, cu, h1, h2, h3, h4, h5, h6, h7, h8, h9⟩ := h
  exact ⟨v, F, own, bl, cu, h1, h2, h3, h4, h5, h6, h7, by omega, h9⟩
theorem OSt.new {w1 w2 : World} {gb : Nat} (hT : TBAt w2 w1.heap.size gb (TB.new 0 0) (.slice none 0 0) (.slice none 0 0) (.slice none 0 0) (.slice none 0 0) (.slice none 0 0) (.slice none 0 0)) (hb : Below w1.heap.size w1 w2) :
    OSt w1 (w2.alloc (.cells #[.pointer none, .slice none 0 0] 88)) gb w2.heap.size (TB.new 0 0) [] 0 := by
  have hz := hb.size
  have h0 : TBIn w2 (fun k => k = gb) gb (TB.new 0 0) := by
    refine ⟨_, _, _, _, _, _, ⟨Nat.zero_le _, hT.blk, own_base hT.o1, own_base hT.p1, own_base hT.o2, own_base hT.p2, own_base hT.ok, own_base hT.op, hT.nb, hT.ns, hT.np⟩, fun k hk => ?_⟩
    rcases hk with hk | hk | hk | hk | hk | hk | hk
    · exact hk
    all_goals cases hk
  have hlt := hT.blk.lt
  have hge := hT.hB
  refine ⟨.slice none 0 0, _, [], [], [], h0.below ((Below.refl _ _).alloc (Nat.le_refl _) _), SBv.new w2, fun k hk => ?_, hz, fun k hk => (by cases hk), RunI.new 0 0, by decide, Nat.le_refl _, hb.alloc hz _⟩
  subst hk
  exact ⟨hge, by omega, fun e => by cases e⟩
/-- Add, and the piece written. -/
theorem OSt.add {w1 wr : World} {gb b : Nat} {tb : TB} {out : L} {N : Nat} (h : OSt w1 wr gb b tb out N) (hG : Gl w1) (hN : N ≤ 1073741824) (e : Ent) (hsq : e.seq < 18446744073709551616) :
    Calls Tryd.prog 10 #[.pointer (some ⟨gb, 0, none⟩), .agg (entC e)] wr fun r w' => r = .returned (.tuple #[.string (bs (tb.add e).2), .int .i64 (tb.err e : Nat)]) ∧ (∀ w'', Below w'.heap.size w' w'' → Calls Tryd.prog 39 #[.pointer (some ⟨b, 0, none⟩), .string (bs (tb.add e).2)] w'' fun r w3 => r = .returned (.tuple #[.int .i64 (tb.add e).2.length, .nilIface]) ∧ OSt w1 w3 gb b (tb.add e).1 (out ++ (tb.add e).2) (N + 1)) ∧ Below w1.heap.size w1 w' := by
  obtain ⟨v, F, own, bl, cu, h1, h2, h3, h4, h5, h6, h7, h8, h9⟩ := h
  have hGl := hG.lt
  have hlt := h2.lt
  refine (TAdd_any h1 (hG.below h9 hGl) e hsq (M := 1073741824) (Nat.le_refl _) (h6.tbd (by omega))).mono ?_
  rintro r w' ⟨rfl, hT, hk⟩
  have hz := hk.size
  have hrun : ∃ own' bl' cu', RunI 0 0 own' (tb.add e).1 (out ++ (tb.add e).2) bl' cu' ∧ (foldB cu').size < 256 ∧ own'.length ≤ N + 1 := by
    by_cases he : tb.err e = 0
    · obtain ⟨bl', cu', q1, q2⟩ := h6.step h7 he
      exact ⟨_, bl', cu', q1, q2, by rw [List.length_append, List.length_singleton]; omega⟩
    · rw [add_err he]
      exact ⟨own, bl, cu, by rw [List.append_nil]; exact h6, h7, by omega⟩
  have hb1 : Below w1.heap.size w1 w' := hk.below_of h9 (fun k hk => (h3 k hk).1)
  have hS' : SBv w' b v out := h2.kept hk (fun q => (h3 b q).2.1 rfl) (fun k e q => (h3 k q).2.2 e)
  have hvl : ∀ k, v.ownBlock = some k → k < wr.heap.size := fun k e => (own_lt h2.2.1 k e).2
  refine ⟨rfl, fun w'' hb => ?_, hb1⟩
  obtain ⟨own', bl', cu', q1, q2, q3⟩ := hrun
  have hbl := q1.blen
  rw [List.length_append] at hbl
  have hz2 := hb.size
  refine (write_v (hS'.kept (KeptBut.of_below (S := fun _ => False) hb) (fun h => h) (fun _ _ h => h)) (tb.add e).2 (by omega)).mono ?_
  rintro r w3 ⟨rfl, v', hS3, hmv, hk3⟩
  have hT2 : TBIn w'' (fun k => Fx F wr w' k ∧ k < w'.heap.size) gb (tb.add e).1 := hT.cut.below hb
  have hF2 : ∀ k, (Fx F wr w' k ∧ k < w'.heap.size) → w1.heap.size ≤ k ∧ k ≠ b ∧ v.ownBlock ≠ some k := by
    rintro k ⟨hf | hf, _⟩
    · exact h3 k hf
    · have := h9.size
      exact ⟨by omega, by omega, fun e => by have := hvl k e; omega⟩
  refine ⟨rfl, v', _, own', bl', cu', hT2.kept hk3 (fun k hf e => e.elim (hF2 k hf).2.1 (hF2 k hf).2.2), hS3, fun k hf => ⟨(hF2 k hf).1, (hF2 k hf).2.1, fun e => ?_⟩, h4, fun k e => ?_, q1, q2, q3, ?_⟩
  · rcases hmv k e with e1 | e1
    · exact (hF2 k hf).2.2 e1
    · have := hf.2
      omega
  · rcases hmv k e with e1 | e1
    · exact h5 k e1
    · have := hb1.size
      omega
  · exact hk3.below_of (hb1.trans (hb.mono hb1.size)) (fun k e => e.elim (fun e => by omega) (fun e => h5 k e))
theorem RunI.outL_le {n : Nat} {lv : Int} {own : List Ent} {s : TB} {out : L} {bls : List (List (L × L))} {cur : List (L × L)} (h : RunI n lv own s out bls cur) (hM : own.length ≤ 1073741824) : s.outL.length ≤ 1099511627776 := by
  by_cases hne : own = []
  · rw [h.outL_nil hne]; simp
  · rw [h.outL_eq hne, List.length_append]
    obtain ⟨bl', h2⟩ := h.fin_
    have hb := h2.tbd hM
    have h3 := BB.outX_le s.fin.index
    have h4 := hb.ib
    have h5 := hb.is_
    have h6 := hb.kl
    have h7 : s.rest.length ≤ 1000 := by
      unfold TB.rest
      split
      · rw [h.data]
        have := h.csz
        have := BB.out_len (foldB cur)
        omega
      · simp
    have h8 : s.fin.tail.length ≤ 300000000000 := by
      unfold TB.tail TB.tail0
      simp only [List.length_append, filterL_len, bigL_len]
      unfold filterN
      have e1 := bigX_le s.fin.at_
      have e2 := bigX_le (s.fin.at_ + (max (10 * s.fin.keys.length) 64 + 7) / 8)
      have e3 := bigX_le s.fin.t.count
      omega
    omega
/-- Finish, and String. -/
theorem OSt.fin {w1 wr : World} {gb b : Nat} {tb : TB} {out : L} {N : Nat} (h : OSt w1 wr gb b tb out N) (hG : Gl w1) (hN : N ≤ 1073741824) :
    Calls Tryd.prog 9 #[.pointer (some ⟨gb, 0, none⟩)] wr fun r w' => (tb.outL.length ≤ 1099511627776 ∧ out.length ≤ 1099511627776) ∧ (∃ x y, r = .returned (.tuple #[.string (bs tb.outL), .agg (tiC x), .int .i64 y])) ∧ (∀ w'', Below w'.heap.size w' w'' → Calls Tryd.prog 40 #[.pointer (some ⟨b, 0, none⟩)] w'' fun r w3 => r = .returned (.string (bs out)) ∧ Below w1.heap.size w1 w3) ∧ Below w1.heap.size w1 w' := by
  obtain ⟨v, F, own, bl, cu, h1, h2, h3, h4, h5, h6, h7, h8, h9⟩ := h
  have hGl := hG.lt
  have hln : tb.outL.length ≤ 1099511627776 ∧ out.length ≤ 1099511627776 := ⟨h6.outL_le (by omega), by have := h6.blen; omega⟩
  have hstr : ∀ w', SBv w' b v out → Below w1.heap.size w1 w' → ∀ w'', Below w'.heap.size w' w'' → Calls Tryd.prog 40 #[.pointer (some ⟨b, 0, none⟩)] w'' fun r w3 => r = .returned (.string (bs out)) ∧ Below w1.heap.size w1 w3 := by
    intro w' hS hb' w'' hb
    have hb'' := hb'.trans (hb.mono hb'.size)
    refine (string_v (hS.kept (KeptBut.of_below (S := fun _ => False) hb) (fun h => h) (fun _ _ h => h)) h4 h5).mono ?_
    rintro r w3 ⟨rfl, hb3⟩
    exact ⟨rfl, hb''.trans hb3⟩
  by_cases hne : own = []
  · have hc : tb.t.count = 0 := by rw [h6.count, hne]; rfl
    obtain ⟨vb1, vs1, vb2, vs2, vk, vp, hT, hF⟩ := id h1
    refine (Fin_err hT.blk (.inr hc)).mono ?_
    rintro r w' ⟨rfl, hb⟩
    have hb' := h9.trans (hb.mono h9.size)
    refine ⟨hln, ⟨_, _, by rw [h6.outL_nil hne]; rfl⟩, hstr w' (h2.kept (KeptBut.of_below (S := fun _ => False) hb) (fun h => h) (fun _ _ h => h)) hb', hb'⟩
  · refine (Fin_run h1 (hG.below h9 hGl) (fun q => by have := (h3 0 q).1; omega) (fun q => by have := (h3 1 q).1; omega) h6 hne (by omega)).mono ?_
    rintro r w' ⟨rfl, _, hk⟩
    have hb' := hk.below_of h9 (fun k hk => (h3 k hk).1)
    exact ⟨hln, ⟨_, _, rfl⟩, hstr w' (h2.kept hk (fun q => (h3 b q).2.1 rfl) (fun k e q => (h3 k q).2.2 e)) hb', hb'⟩
end Go.Proofs.YtfnlponoakhegaaDoor
namespace Go.Proofs.YtfnlponoakhegaaDoor
set_option linter.unusedVariables false
set_option linter.unusedSimpArgs false
def stepX (a : TB × L × List Ent) (e : Ent) : TB × L × List Ent := ((a.1.add e).1, a.2.1 ++ (a.1.add e).2, if a.1.err e = 0 then a.2.2 ++ [e] else a.2.2)
def runX (n : Nat) (lv : Int) (es : List Ent) : TB × L × List Ent := es.foldl stepX (TB.new n lv, [], [])
theorem runX_snoc (n : Nat) (lv : Int) (es : List Ent) (e : Ent) : runX n lv (es ++ [e]) = stepX (runX n lv es) e := by unfold runX; rw [List.foldl_append]; rfl
theorem runG_snoc (es : List Ent) (e : Ent) (a : TB × L) : runG (es ++ [e]) a = (((runG es a).1.add e).1, (runG es a).2 ++ ((runG es a).1.add e).2) := by unfold runG; rw [List.foldl_append]; rfl
structure RunX (n : Nat) (lv : Int) (es : List Ent) (r : TB × L × List Ent) : Prop where
  ex : ∃ bl cu, RunI n lv r.2.2 r.1 r.2.1 bl cu ∧ (foldB cu).size < 256
  run : runG r.2.2 (TB.new n lv, []) = (r.1, r.2.1)
  len : r.2.2.length ≤ es.length
  sub : r.2.2.Sublist es
theorem runX_I (n : Nat) (lv : Int) (es : List Ent) : RunX n lv es (runX n lv es) := by
  induction es using snocRec with
  | nil => exact ⟨⟨[], [], RunI.new n lv, by decide⟩, rfl, Nat.le_refl _, List.Sublist.refl _⟩
  | snoc es e ih =>
    rw [runX_snoc]
    generalize runX n lv es = r at *
    obtain ⟨⟨bl, cu, h1, h2⟩, h3, h4, h5⟩ := ih
    unfold stepX
    by_cases he : r.1.err e = 0
    · rw [if_pos he]
      obtain ⟨bl', cu', q1, q2⟩ := h1.step h2 he
      refine ⟨⟨bl', cu', q1, q2⟩, ?_, by simp; omega, h5.append (List.Sublist.refl _)⟩
      simp only [runG_snoc, h3]
    · rw [if_neg he]
      have ha := add_err he
      refine ⟨⟨bl, cu, ?_, h2⟩, ?_, by rw [List.length_append]; show r.2.2.length ≤ _; omega, h5.trans (List.sublist_append_left _ _)⟩
      · simp only [ha, List.append_nil]; exact h1
      · simp only [ha, List.append_nil]; exact h3
def costR (l : List (L × L)) : Nat := (l.map fun r => r.1.length + r.2.length + 35).sum
theorem costR_app (a b : List (L × L)) : costR (a ++ b) = costR a + costR b := by unfold costR; rw [List.map_append, List.sum_append]
theorem foldB_cost (es : List (L × L)) : (foldB es).size ≤ costR es + 4 := by
  induction es using snocRec with
  | nil => decide
  | snoc es e ih =>
    rw [foldB_snoc, costR_app]
    have h1 : costR [e] = e.1.length + e.2.length + 35 := by simp [costR]
    have h2 := BB.enc_len (foldB es) e.1 e.2
    unfold BB.put
    unfold BB.size at ih ⊢
    simp only [List.length_append]
    split <;> (try rw [List.length_append]) <;> (try simp only [List.length_singleton]) <;> omega
theorem outs_cost : ∀ bls : List (List (L × L)), (outs bls).length ≤ costR bls.flatten + 4 * bls.length
  | [] => by simp [outs]
  | b :: r => by
    have ih := outs_cost r
    have h := foldB_cost b
    rw [← BB.out_len] at h
    rw [outs_cons, List.length_append, List.flatten_cons, costR_app, List.length_cons]
    have e : (outB b).length = (foldB b).out.length := rfl
    omega
def entSz (l : List Ent) : Nat := (l.map fun e => e.key.length + e.value.length).sum
theorem cost_rows (l : List Ent) : costR (l.map rowE) ≤ 2 * entSz l + 47 * l.length := by
  induction l with
  | nil => simp [costR, entSz]
  | cons e l ih =>
    have h1 := internalL_len e.key e.seq
    have h2 : (rowV e).length = e.value.length + 1 := by unfold rowV; simp
    have h3 : (rowK e).length = (internalL e.key e.seq).length := rfl
    unfold costR entSz at *
    simp only [List.map_cons, List.sum_cons, List.length_cons, rowE]
    omega
/-- A table's bytes are few. -/
theorem RunI.file_len {n : Nat} {lv : Int} {own : List Ent} {s : TB} {out : L} {bls : List (List (L × L))} {cur : List (L × L)} (h : RunI n lv own s out bls cur) (hn : own.length ≤ 101) (hs : entSz own ≤ 8000) : (out ++ s.outL).length ≤ 98304 := by
  by_cases hne : own = []
  · rw [h.outL_nil hne, List.append_nil, h.out_]
    have h1 := h.blen
    rw [hne] at h1
    have h2 : bls = [] := List.eq_nil_of_length_eq_zero (by simp at h1; simp [h1])
    rw [h2]
    simp [outs]
  · rw [h.outL_eq hne]
    obtain ⟨bl', h2⟩ := h.fin_
    have hb := h2.tbd (Nat.le_refl _)
    have h3 := BB.outX_le s.fin.index
    have h4 := h2.ib
    have hx := h2.index
    have h5 := hb.is_
    have h6 := hb.kl
    have h7 := h2.blen
    have h8 := outs_cost bl'
    rw [← h2.out_] at h8
    have h9 : bl'.flatten = own.map rowE := by have := h2.rows; rwa [List.append_nil] at this
    rw [h9] at h8
    have h10 := cost_rows own
    rw [← hx] at h4
    have h11 : s.fin.tail.length ≤ s.fin.index.outX.length + 200 := by
      unfold TB.tail TB.tail0
      simp only [List.length_append, filterL_len, bigL_len]
      unfold filterN
      have e1 := bigX_le s.fin.at_
      have e2 := bigX_le (s.fin.at_ + (max (10 * s.fin.keys.length) 64 + 7) / 8)
      have e3 := bigX_le s.fin.t.count
      omega
    rw [← List.append_assoc, List.length_append]
    simp only [List.length_nil] at h7
    omega
def small3 : List Ent := [⟨[97], [120], 5, false⟩, ⟨[97], [], 3, true⟩, ⟨[98], [121], 9, false⟩]
def entT (e : Ent) : L × L × Nat × Bool := (e.key, e.value, e.seq, e.gone)
theorem entT_inj : ∀ {a b : List Ent}, a.map entT = b.map entT → a = b
  | [], [], _ => rfl
  | [], b :: l, h => by cases h
  | a :: l, [], h => by cases h
  | ⟨a1, a2, a3, a4⟩ :: l, ⟨b1, b2, b3, b4⟩ :: m, h => by
    simp only [List.map_cons, entT, List.cons.injEq, Prod.mk.injEq] at h
    obtain ⟨⟨h1, h2, h3, h4⟩, h5⟩ := h
    rw [h1, h2, h3, h4, entT_inj h5]
theorem small_own : (runX 7 1 small3).2.2 = small3 := entT_inj (by decide +kernel)
end Go.Proofs.YtfnlponoakhegaaDoor
namespace Go.Proofs.YtfnlponoakhegaaDoor
open Go.RowKit
set_option linter.unusedVariables false
set_option linter.unusedSimpArgs false
def entsC (l : List Ent) : List Value := (l.map fun e => (entC e).toList).flatten
theorem entsC_app (a b : List Ent) : entsC (a ++ b) = entsC a ++ entsC b := by simp [entsC]
theorem entsC_one (e : Ent) : entsC [e] = [.string (bs e.key), .string (bs e.value), .int .u64 (e.seq : Nat), .bool e.gone] := rfl
theorem entsC_len : ∀ l : List Ent, (entsC l).length = 4 * l.length
  | [] => rfl
  | e :: l => by
    have h : entsC (e :: l) = entsC [e] ++ entsC l := entsC_app [e] l
    rw [h, List.length_append, entsC_len l, entsC_one]
    simp only [List.length_cons, List.length_nil]
    omega
def OwnE (w : World) (B : Nat) (v : Value) (l : List Ent) : Prop := w.ownsRow B 33 4 v l.length (entsC l)
theorem OwnE.snoc {w : World} {B : Nat} {v : Value} {l : List Ent} (o : Ent) (h : w.ownsRow B 33 4 v (l.length + 1) (entsC l ++ [.string (bs o.key), .string (bs o.value), .int .u64 (o.seq : Nat), .bool o.gone])) : OwnE w B v (l ++ [o]) := by
  unfold OwnE
  rw [entsC_app, entsC_one, List.length_append]
  exact h
theorem OwnE.nil (w : World) (B : Nat) : OwnE w B (.slice none 0 0) [] := World.ownsRow_nil _ _ _ 4
theorem OwnE.form {w : World} {B : Nat} {v : Value} {l : List Ent} (h : OwnE w B v l) : ∃ A cap, v = .slice A l.length cap := by
  rcases h.2 with ⟨rfl, e⟩ | ⟨g, cap, cur, rfl, _⟩
  · exact ⟨none, 0, by rw [e]⟩
  · exact ⟨_, cap, rfl⟩
theorem entry_info : (Tryd.prog.info? 33).map (fun i => (i.zero, i.size, i.bytes)) = some (some (.agg #[.string ⟨#[]⟩, .string ⟨#[]⟩, .int .u64 0, .bool false]), 4, 48) := by kernel_rfl
theorem reads4 (w : World) (t : TypeId) (x y z u : Value) : Reads (w.alloc (.cells #[x, y, z, u] t)) (w.heap.size + 1) 4 (some ⟨w.heap.size, 0, none⟩) 1 [x, y, z, u] := by
  refine ⟨rfl, fun _ => ⟨_, rfl, by simp, fun j v hv => ?_⟩⟩
  have e1 : (⟨w.heap.size, 0, none⟩ : Addr).add j = ⟨w.heap.size, j, none⟩ := by cases j <;> simp [Addr.add]
  rw [e1, World.cell?_alloc_new]
  have hj : j < 4 := by
    rcases Nat.lt_or_ge j 4 with h | h
    · exact h
    · rw [List.getElem?_eq_none (by simp; omega)] at hv; cases hv
  match j, hj with
  | 0, _ => exact hv
  | 1, _ => exact hv
  | 2, _ => exact hv
  | 3, _ => exact hv
theorem OwnE.below {w w' : World} {B : Nat} {v : Value} {l : List Ent} (h : OwnE w B v l) (hb : Below w.heap.size w w') : OwnE w' B v l := own_block h (fun k hk => hb.block k (own_lt h k hk).2)
/-- What is still to come of a range. -/
def restR (first to_ : L) (b : List (L × L)) (bls : List (List (L × L))) : List Ent := ((b ++ rowsP first bls).map entE).takeWhile (keepP to_)
theorem restR_cons {first to_ : L} {r : L × L} {b : List (L × L)} {bls : List (List (L × L))} : restR first to_ (r :: b) bls = if keepP to_ (entE r) = true then entE r :: restR first to_ b bls else [] := by
  unfold restR
  rw [List.cons_append, List.map_cons, List.takeWhile_cons]
theorem restR_blk {first to_ : L} {b : List (L × L)} {bls : List (List (L × L))} : restR first to_ [] (b :: bls) = restR first to_ (b.drop (seekP b first)) bls := by
  unfold restR rowsP
  rw [List.flatMap_cons, List.nil_append]
theorem restR_len (first to_ : L) : ∀ (bls : List (List (L × L))) (b : List (L × L)), b.length ≤ 1048576 → (∀ c ∈ bls, c.length ≤ 1048576) → (restR first to_ b bls).length ≤ 1048576 * (bls.length + 1)
  | [], b, hb, _ => by
    have h : restR first to_ b [] = (b.map entE).takeWhile (keepP to_) := by unfold restR rowsP; simp
    rw [h]
    have := (List.takeWhile_sublist (keepP to_) (l := b.map entE)).length_le
    rw [List.length_map] at this
    simp only [List.length_nil]
    omega
  | c :: r, b, hb, hc => by
    have ih := restR_len first to_ r (c.drop (seekP c first)) (by have := hc c (List.mem_cons_self ..); rw [List.length_drop]; omega) (fun x hx => hc x (List.mem_cons_of_mem _ hx))
    rw [← restR_blk] at ih
    have h1 : ∀ (l m : List Ent) (p : Ent → Bool), ((l ++ m).takeWhile p).length ≤ l.length + (m.takeWhile p).length := by
      intro l m p
      induction l with
      | nil => simp
      | cons x l ih2 =>
        rw [List.cons_append, List.takeWhile_cons]
        split
        · simp only [List.length_cons]; omega
        · simp
    have h2 := h1 (b.map entE) ((rowsP first (c :: r)).map entE) (keepP to_)
    rw [List.length_map] at h2
    have h3 : (restR first to_ [] (c :: r)).length = (((rowsP first (c :: r)).map entE).takeWhile (keepP to_)).length := by unfold restR; rw [List.nil_append]
    unfold restR at ih ⊢
    rw [List.map_append]
    simp only [List.nil_append] at ih
    simp only [List.length_cons]
    omega
set_option maxRecDepth 100000 in
set_option maxHeartbeats 1000000 in
theorem Range_nil (from_ to_ : ByteArray) (w : World) : Calls Tryd.prog 15 #[.pointer none, .string from_, .string to_] w fun e w' => e = .returned (.slice none 0 0) ∧ Below w.heap.size w w' := by
  go_enter Tryd.func15, Tryd.ntmps15
  go_wp2_with fail
  go_ret
  exact ⟨rfl, Below.refl _ _⟩
set_option maxRecDepth 100000 in
set_option maxHeartbeats 4000000 in
theorem Range_any {w : World} {gt : Nat} {f : L} {ix : List (L × L)} {bls : List (List (L × L))} (h : TTAt w gt f ix bls) (hl : bls.length = ix.length) (hG : Gl w) (from_ to_ : ByteArray) (hk : from_.size ≤ 1048576) :
    Calls Tryd.prog 15 #[.pointer (some ⟨gt, 0, none⟩), .string from_, .string to_] w fun e w' => ∃ v, e = .returned v ∧ OwnE w' w.heap.size v (rangeP ix bls from_.data.toList to_.data.toList) ∧ Below w.heap.size w w' := by
  obtain ⟨i0, hi0, hz0, hz1, hz2⟩ := info_parts entry_info
  obtain ⟨gi, A, cap, gs, hB, hI, hr, hgl, hbk⟩ := id h
  have c1 : w.cell? ⟨gt, 1, none⟩ = some (.pointer (some ⟨gi, 0, none⟩)) := hB.cell 1
  have c2 : w.cell? ⟨gt, 2, none⟩ = some (.slice A gs.length cap) := hB.cell 2
  have hlt := hB.lt
  have hGl := hG.lt
  have hint := Lib.hid (Internal_any from_ 18446744073709551615 w hG hk (by decide))
  have hP : rangeP ix bls from_.data.toList to_.data.toList = restR (internalL from_.data.toList 18446744073709551615) to_.data.toList [] (bls.drop (seekP ix (internalL from_.data.toList 18446744073709551615))) := by
    unfold rangeP restR
    rw [List.nil_append]
  have hsle := seekP_le ix (internalL from_.data.toList 18446744073709551615)
  have hixl : ix.length ≤ 1048576 := by obtain ⟨_, _, _, _, _, h3, _⟩ := hI; exact h3
  have hbll : ∀ c ∈ bls, c.length ≤ 1048576 := by
    intro c hc
    obtain ⟨j, hj, rfl⟩ := List.mem_iff_getElem.1 hc
    have hb := hbk j (gs[j]'(by omega)) bls[j] (List.getElem?_eq_getElem (by omega)) (List.getElem?_eq_getElem hj)
    obtain ⟨_, _, _, _, _, h3, _⟩ := hb
    exact h3
  generalize internalL from_.data.toList 18446744073709551615 = first at *
  go_enter Tryd.func15, Tryd.ntmps15
  go_wp2_with fail
  refine hint.out.mono ?_
  rintro e w1 ⟨rfl, hb1⟩
  have hz1' := hb1.size
  have d1 := (hb1.cell (p := ⟨gt, 1, none⟩) hlt).trans c1
  have hsk := Lib.hid (Seek_any (hI.below hb1) first)
  go_wp2_with fail
  refine hsk.out.mono ?_
  rintro e w2 ⟨rfl, hb2⟩
  have hb02 := hb1.trans (hb2.mono hz1')
  clear hb2 hb1 d1 hsk hint
  have hRl := restR_len first to_.data.toList (bls.drop (seekP ix first)) [] (by simp) (fun c hc => hbll c (List.mem_of_mem_drop hc))
  rw [← hP, List.length_drop] at hRl
  generalize seekP ix first = i0' at *
  go_wp2_with fail
  go_loopw [7, 9] (fun ov iv wr => ∃ i done, i ≤ ix.length ∧ iv = .int .i64 (i : Nat) ∧ rangeP ix bls from_.data.toList to_.data.toList = done ++ restR first to_.data.toList [] (bls.drop i) ∧ OwnE wr w.heap.size ov done ∧ Below w.heap.size w wr) (fun _ iv _ => ix.length - (intOf iv).toNat)
  case atStart => exact ⟨i0', [], hsle, rfl, by rw [hP]; rfl, OwnE.nil _ _, hb02⟩
  case round =>
    obtain ⟨i, done, hi, rfl, hR, hO, hbr⟩ := hrel
    have hzr := hbr.size
    obtain ⟨Ao, co, rfl⟩ := hO.form
    have d2 := (hbr.cell (p := ⟨gt, 2, none⟩) hlt).trans c2
    by_cases hil : i < ix.length
    · have hilt : i < gs.length := by omega
      have hilt' : ((i : Nat) : Int) < (gs.length : Nat) := by omega
      obtain ⟨g, hg⟩ : ∃ g, gs[i]? = some g := ⟨_, List.getElem?_eq_getElem hilt⟩
      obtain ⟨b, hb⟩ : ∃ b, bls[i]? = some b := ⟨_, List.getElem?_eq_getElem (by omega)⟩
      have hbg := hbk i g b hg hb
      obtain ⟨ad, u, rfl, hadB, hu, hcell⟩ := hr.at_ hilt
      rw [List.getElem?_map, hg] at hu
      injection hu with hu
      subst hu
      obtain ⟨ad0, u0, e0, _, _, hc0⟩ := hr.at_ (k := 0) (by omega)
      injection e0 with e0
      subst e0
      obtain ⟨bb, oo, rfl⟩ := plain_cell hc0
      clear hc0
      rw [add_off] at hcell
      have hadB' : bb < w.heap.size := hadB
      have d3 := (hbr.cell (p := ⟨bb, oo + i, none⟩) hadB').trans hcell
      have hdr : bls.drop i = b :: bls.drop (i + 1) := by
        rw [List.drop_eq_getElem_cons (by omega)]
        rw [List.getElem?_eq_getElem (by omega)] at hb
        injection hb with hb
        rw [hb]
      rw [hdr, restR_blk] at hR
      have hbl : b.length ≤ 1048576 := by obtain ⟨_, _, _, _, _, h3, _⟩ := hbg; exact h3
      have hsb := seekP_le b first
      have hskb := Lib.hid (Seek_any (hbg.below hbr) first)
      generalize seekP b first = j0 at *
      replace hb := Lib.hid hb
      replace hg := Lib.hid hg
      replace hdr := Lib.hid hdr
      replace hP := Lib.hid hP
      replace hR := Lib.hid hR
      go_wp2_with fail
      refine hskb.out.mono ?_
      rintro e w3 ⟨rfl, hb3⟩
      have hO3 := hO.below hb3
      have hb03 := hbr.trans (hb3.mono hzr)
      clear hb3 hskb d2 d3
      go_wp2_with fail
      go_loopw [7, 11] (fun ov jv wq => ∃ j done, j ≤ b.length ∧ jv = .int .i64 (j : Nat) ∧ rangeP ix bls from_.data.toList to_.data.toList = done ++ restR first to_.data.toList (b.drop j) (bls.drop (i + 1)) ∧ OwnE wq w.heap.size ov done ∧ Below w.heap.size w wq) (fun _ jv _ => b.length - (intOf jv).toNat)
      case atStart => exact ⟨j0, done, hsb, rfl, hR.out, hO3, hb03⟩
      case round =>
        obtain ⟨j, dn, hj, rfl, hRj, hOj, hbq⟩ := hrel
        have hzq := hbq.size
        obtain ⟨Aq, cq, rfl⟩ := hOj.form
        have hlen := Lib.hid (Len_any (hbg.below hbq))
        by_cases hjl : j < b.length
        · have hjl' : ((j : Nat) : Int) < (b.length : Nat) := by omega
          obtain ⟨kk, vv, hkv⟩ : ∃ k v, b[j]? = some (k, v) := ⟨b[j].1, b[j].2, List.getElem?_eq_getElem hjl⟩
          have hdj : b.drop j = (kk, vv) :: b.drop (j + 1) := by
            rw [List.drop_eq_getElem_cons (by omega)]
            rw [List.getElem?_eq_getElem (by omega)] at hkv
            injection hkv with hkv
            rw [hkv]
          rw [hdj, restR_cons] at hRj
          have hat := Lib.hid fun W (hW : Below w.heap.size w W) => At_some (hbg.below hW) j kk vv hkv
          obtain ⟨hkl, hvl⟩ := bk_small hbg hkv
          have hent := Lib.hid fun W => entry_any (bs kk) (bs vv) W (by rw [bs_size]; omega) (by rw [bs_size]; omega)
          rw [bs_data, bs_data] at hent
          have hdl : dn.length ≤ 1048576 * 1048577 := by
            have h9 := congrArg List.length hRj
            rw [List.length_append] at h9
            omega
          have hee : entE (kk, vv) = (entryP kk vv).getD ent0 := rfl
          generalize entE (kk, vv) = eo at *
          replace hdj := Lib.hid hdj
          replace hkv := Lib.hid hkv
          have hRj' := Lib.hid hRj
          clear hRj
          go_wp2_with fail
          refine hlen.out.mono ?_
          rintro e w4 ⟨rfl, hb4⟩
          have hO4 := hOj.below hb4
          have hb04 := hbq.trans (hb4.mono hzq)
          clear hb4 hlen
          go_wp2_with fail
          refine (hat.out _ hb04).mono ?_
          rintro e w5 ⟨rfl, hb5⟩
          have hO5 := hO4.below hb5
          have hb05 := hb04.trans (hb5.mono hb04.size)
          clear hb5 hb04 hO4 hat
          unfold AtV
          go_wp2_with fail
          refine (hent.out _).mono ?_
          rintro e w6 ⟨rfl, hb6⟩
          have hO6 := hO5.below hb6
          have hb06 := hb05.trans (hb6.mono hb05.size)
          have hz06 := hb06.size
          clear hb6 hb05 hO5 hent
          unfold entV
          rw [← hee]
          generalize (entryP kk vv).isSome = eok at *
          unfold entC
          clear hee
          have hE6 := Blk.new w6 33 (entC eo)
          have ho1 := World.ownsRow.alloc (World.ownsRow.alloc (show w6.ownsRow w.heap.size 33 4 (.slice Aq dn.length cq) dn.length (entsC dn) from hO6) (.cells #[.string (bs eo.key), .string (bs eo.value), .int .u64 (eo.seq : Nat), .bool eo.gone] 33)) (.cells #[.string (bs eo.key), .string (bs eo.value), .int .u64 (eo.seq : Nat), .bool eo.gone] 33)
          have hrd := reads4 (w6.alloc (.cells #[.string (bs eo.key), .string (bs eo.value), .int .u64 (eo.seq : Nat), .bool eo.gone] 33)) 33 (.string (bs eo.key)) (.string (bs eo.value)) (.int .u64 (eo.seq : Nat)) (.bool eo.gone)
          rw [World.size_alloc] at hrd
          have hbase : w.heap.size ≤ ((w6.alloc (.cells #[.string (bs eo.key), .string (bs eo.value), .int .u64 (eo.seq : Nat), .bool eo.gone] 33)).alloc (.cells #[.string (bs eo.key), .string (bs eo.value), .int .u64 (eo.seq : Nat), .bool eo.gone] 33)).heap.size := by rw [World.size_alloc, World.size_alloc]; omega
          replace ho1 := Lib.hid ho1
          replace hrd := Lib.hid hrd
          clear hE6
          by_cases hte : to_.toList = []
          · have hto : to_.data.toList = [] := by rw [← ByteArray.toList_eq]; exact hte
            have hem : to_.toList.isEmpty = true := by rw [hte]; rfl
            have hkp : keepP to_.data.toList eo = true := by unfold keepP; simp [hto]
            replace hRj' := hRj'.out
            rw [hkp, if_pos rfl] at hRj'
            replace hRj' := Lib.hid hRj'
            replace hkp := Lib.hid hkp
            replace hto := Lib.hid hto
            go_wp2_with (at_builtin; refine wpList_append_any _ rfl (.tmp 74) (.tmp 76) _ rfl w.heap.size 33 i0 _ 4 48 Tryd.underlying41 hi0 hz0 hz1 hz2 rfl (by omega) _ dn.length (entsC dn) rfl ho1.out (w6.heap.size + 1 + 1) (some ⟨w6.heap.size + 1, 0, none⟩) 1 1 _ rfl hrd.out (fun u hu => by simp at hu; rcases hu with rfl | rfl | rfl | rfl <;> rfl) (by unfold maxLen; omega) (by omega) hbase ?_)
            intro v' w7 ho7 hg7 hat7
            go_wp2_with fail
            refine ⟨⟨j + 1, dn ++ [eo], by omega, by go_num, by rw [hRj'.out]; simp, OwnE.snoc eo ho7, ?_⟩, by first | omega | (simp only [intOf]; omega)⟩
            exact ((hb06.alloc hz06 _).alloc (by rw [World.size_alloc]; omega) _).grown hg7 hbase (fun k hk => (own_lt hO6 k hk).1)
          · have hto : to_.data.toList ≠ [] := by rw [← ByteArray.toList_eq]; exact hte
            have hem : to_.toList.isEmpty = false := by cases ht : to_.toList with
              | nil => exact absurd ht hte
              | cons a l => rfl
            by_cases hless : Op.bytesLess (bs eo.key).toList to_.toList = true
            · have hkp : keepP to_.data.toList eo = true := by
                unfold keepP lessL
                rw [bs_toList, ByteArray.toList_eq] at hless
                rw [hless, Bool.or_true]
              replace hRj' := hRj'.out
              rw [hkp, if_pos rfl] at hRj'
              replace hRj' := Lib.hid hRj'
              replace hkp := Lib.hid hkp
              replace hto := Lib.hid hto
              go_wp2_with (at_builtin; refine wpList_append_any _ rfl (.tmp 74) (.tmp 76) _ rfl w.heap.size 33 i0 _ 4 48 Tryd.underlying41 hi0 hz0 hz1 hz2 rfl (by omega) _ dn.length (entsC dn) rfl ho1.out (w6.heap.size + 1 + 1) (some ⟨w6.heap.size + 1, 0, none⟩) 1 1 _ rfl hrd.out (fun u hu => by simp at hu; rcases hu with rfl | rfl | rfl | rfl <;> rfl) (by unfold maxLen; omega) (by omega) hbase ?_)
              intro v' w7 ho7 hg7 hat7
              go_wp2_with fail
              refine ⟨⟨j + 1, dn ++ [eo], by omega, by go_num, by rw [hRj'.out]; simp, OwnE.snoc eo ho7, ?_⟩, by first | omega | (simp only [intOf]; omega)⟩
              exact ((hb06.alloc hz06 _).alloc (by rw [World.size_alloc]; omega) _).grown hg7 hbase (fun k hk => (own_lt hO6 k hk).1)
            · have hkp : keepP to_.data.toList eo = false := by
                unfold keepP lessL
                rw [bs_toList, ByteArray.toList_eq] at hless
                rw [Bool.not_eq_true] at hless
                rw [hless, Bool.or_false]
                simpa using hto
              have hless' : Op.bytesLess (bs eo.key).toList to_.toList = false := by simpa using hless
              replace hRj' := hRj'.out
              rw [hkp, if_neg (by decide), List.append_nil] at hRj'
              replace hRj' := Lib.hid hRj'
              replace hkp := Lib.hid hkp
              replace hto := Lib.hid hto
              clear hless ho1 hrd
              go_wp2_with fail
              go_ret
              refine ⟨_, rfl, by rw [hRj'.out]; exact OwnE.below hO6 ((Below.refl _ _).alloc (Nat.le_refl _) _), hb06.alloc hz06 _⟩
        · obtain rfl : j = b.length := by omega
          rw [List.drop_length] at hRj
          replace hRj := Lib.hid hRj
          go_wp2_with fail
          refine hlen.out.mono ?_
          rintro e w4 ⟨rfl, hb4⟩
          have hO4 := hOj.below hb4
          have hb04 := hbq.trans (hb4.mono hzq)
          clear hb4 hlen
          go_wp2_with fail
          exact ⟨⟨i + 1, dn, by omega, by go_num, hRj.out, hO4, hb04⟩, by first | omega | (simp only [intOf]; omega)⟩
    · obtain rfl : i = ix.length := by omega
      have hilt' : ¬ ((ix.length : Nat) : Int) < (gs.length : Nat) := by omega
      have hfin : rangeP ix bls from_.data.toList to_.data.toList = done := by
        rw [hR, List.drop_of_length_le (by omega)]
        show done ++ [] = done
        rw [List.append_nil]
      replace hfin := Lib.hid hfin
      replace hR := Lib.hid hR
      replace hP := Lib.hid hP
      go_wp2_with fail
      go_ret
      exact ⟨_, rfl, by rw [hfin.out]; exact hO, hbr⟩
set_option maxRecDepth 100000 in
set_option maxHeartbeats 1000000 in
theorem All_nil (w : World) : Calls Tryd.prog 14 #[.pointer none] w fun e w' => e = .returned (.slice none 0 0) ∧ Below w.heap.size w w' := by
  have hr := Lib.hid (Range_nil ⟨#[]⟩ ⟨#[]⟩ w)
  go_enter Tryd.func14, Tryd.ntmps14
  go_wp2_with fail
  refine hr.out.mono ?_
  rintro e w1 ⟨rfl, hb1⟩
  go_wp2_with fail
  go_ret
  exact ⟨rfl, hb1⟩
set_option maxRecDepth 100000 in
set_option maxHeartbeats 1000000 in
theorem All_any {w : World} {gt : Nat} {f : L} {ix : List (L × L)} {bls : List (List (L × L))} (h : TTAt w gt f ix bls) (hl : bls.length = ix.length) (hG : Gl w) :
    Calls Tryd.prog 14 #[.pointer (some ⟨gt, 0, none⟩)] w fun e w' => ∃ v, e = .returned v ∧ OwnE w' w.heap.size v (rangeP ix bls [] []) ∧ Below w.heap.size w w' := by
  have hr := Lib.hid (Range_any h hl hG ⟨#[]⟩ ⟨#[]⟩ (by decide))
  go_enter Tryd.func14, Tryd.ntmps14
  go_wp2_with fail
  refine hr.out.mono ?_
  rintro e w1 ⟨v, rfl, hO, hb1⟩
  obtain ⟨A, c, rfl⟩ := hO.form
  go_wp2_with fail
  go_ret
  exact ⟨_, rfl, hO, hb1⟩
def OpnIs (w : World) (o : Option (L × List (L × L) × List (List (L × L)))) (e : Ending) (w' : World) : Prop := match o with
  | none => e = .returned (.tuple #[.pointer none, .int .i64 8])
  | some t => ∃ gt, e = .returned (.tuple #[.pointer (some ⟨gt, 0, none⟩), .int .i64 0]) ∧ TTF (fun k => w.heap.size ≤ k) w' gt t.1 t.2.1 t.2.2
theorem OpnIs.none_ {w : World} {o : Option (L × List (L × L) × List (List (L × L)))} {w' : World} (h : o = none) : OpnIs w o (.returned (.tuple #[.pointer none, .int .i64 8])) w' := by subst h; rfl
theorem OpnIs.some_ {w : World} {o : Option (L × List (L × L) × List (List (L × L)))} {w' : World} {f : L} {ix : List (L × L)} {bls : List (List (L × L))} {gt : Nat} (h : o = some (f, ix, bls)) (hk : TTF (fun k => w.heap.size ≤ k) w' gt f ix bls) : OpnIs w o (.returned (.tuple #[.pointer (some ⟨gt, 0, none⟩), .int .i64 0])) w' := by subst h; exact ⟨gt, rfl, hk⟩
theorem TTF.below {F : Nat → Prop} {w w' : World} {gt : Nat} {f : L} {ix : List (L × L)} {bls : List (List (L × L))} (h : TTF F w gt f ix bls) (hb : Below w.heap.size w w') : TTF F w' gt f ix bls := h.kept (KeptBut.of_below (S := fun _ => False) hb) (fun _ _ h => h)
theorem againT_cons {k v : L} {r : List (L × L)} {a : TB × L} : againT ((k, v) :: r) a = match entryP k v with
    | none => none
    | some e => againT r ((a.1.add e).1, a.2 ++ (a.1.add e).2) := rfl
theorem entry_seq {k v : L} {e : Ent} (h : entryP k v = some e) : e.seq < 18446744073709551616 := by
  unfold entryP at h
  split at h
  · cases h
  · split at h
    · injection h with h
      subst h
      show 18446744073709551615 - _ < _
      omega
    · cases h
/-- What is still to be done. -/
def restT (T : Option (TB × L)) (l : List (L × L)) (tb : TB) (out : L) : Prop := T = againT l (tb, out)
set_option maxRecDepth 100000 in
set_option maxHeartbeats 4000000 in
theorem TOpen_any (s : ByteArray) (w : World) (hs : s.size ≤ 98304) (hG : Gl w) :
    Calls Tryd.prog 12 #[.string s] w fun e w' => OpnIs w (openT s.data.toList) e w' ∧ Below w.heap.size w w' := by
  have hrd := read_any s w (by omega)
  have hO : openT s.data.toList = openT s.data.toList := rfl
  conv at hO => rhs; unfold openT
  have hGl := hG.lt
  cases hrt : readT s.data.toList with
  | none =>
    rw [hrt] at hrd hO
    have hR : openT s.data.toList = none := hO
    replace hrd := Lib.hid hrd
    clear hO
    replace hrt := Lib.hid hrt
    replace hR := Lib.hid hR
    go_enter Tryd.func12, Tryd.ntmps12
    go_wp2_with fail
    refine hrd.out.mono ?_
    rintro e w1 ⟨rfl, hb1⟩
    go_wp2_with fail
    go_ret2
    exact ⟨OpnIs.none_ hR.out, hb1⟩
  | some t =>
    obtain ⟨f, ix, bls⟩ := t
    rw [hrt] at hrd hO
    obtain ⟨_, hixl, hbix, hbl⟩ := readT_small hrt
    rw [dlen] at hixl
    have hR : openT s.data.toList = match againT bls.flatten (TB.new 0 0, []) with
      | none => none
      | some (tb, out) => if out ++ tb.outL = s.data.toList then some (f, ix, bls) else none := hO
    replace hrd := Lib.hid hrd
    clear hO
    replace hrt := Lib.hid hrt
    replace hR := Lib.hid hR
    go_enter Tryd.func12, Tryd.ntmps12
    go_wp2_with fail
    refine hrd.out.mono ?_
    rintro e w1 ⟨⟨gt, rfl, hT1⟩, hb1⟩
    have hz1 := hb1.size
    have hG1 := hG.below hb1 hGl
    have hnew := Lib.hid (New_any 0 0 w1)
    go_wp2_with fail
    refine hnew.out.mono ?_
    rintro e w2 ⟨⟨gb, rfl, hB2⟩, hb2⟩
    have hS0 := OSt.new hB2 hb2
    obtain ⟨gi, A, cap, gs, hB, hI, hr, hgl, hbk, hgt, _⟩ := id hT1
    have c2 : w1.cell? ⟨gt, 2, none⟩ = some (.slice A gs.length cap) := hB.cell 2
    have hlt1 := hB.lt
    have d2 := (hb2.cell (p := ⟨gt, 2, none⟩) hlt1).trans c2
    have hlt2 : gt < w2.heap.size := by have := hb2.size; omega
    clear hB2 hnew hrd
    have hbl' : ∀ b ∈ bls, b.length ≤ 32768 := fun b hb => by have := hbl b hb; rw [dlen] at this; omega
    clear hbl
    replace hR := hR.out
    generalize hTe : againT bls.flatten (TB.new 0 0, []) = T at hR
    have hR2 := Lib.hid hR
    have h0 : restT T bls.flatten (TB.new 0 0) [] := hTe.symm
    replace hTe := Lib.hid hTe
    clear hR
    have hgsl : gs.length ≤ 32768 := by omega
    generalize hbb : w2.heap.size = b at hS0
    replace hbb := Lib.hid hbb
    have hB1 := Lib.hid hB
    have hI1 := Lib.hid hI
    clear hB hI c2 hb2
    go_wp2_with fail
    clear d2
    go_loopw [30] (fun iv wr => ∃ i tb out, i ≤ gs.length ∧ iv = .int .i64 (i : Nat) ∧ restT T (bls.drop i).flatten tb out ∧ OSt w1 wr gb w2.heap.size tb out (i * 32768)) (fun iv _ => gs.length - (intOf iv).toNat)
    case atStart =>
      rw [← hbb.out] at hS0
      exact ⟨0, _, _, Nat.zero_le _, rfl, h0, hS0⟩
    case round =>
      obtain ⟨i, tb, out, hi, rfl, hrest, hSt⟩ := hrel
      have hbr := hSt.bel
      by_cases hil : i < gs.length
      · have hil' : ((i : Nat) : Int) < (gs.length : Nat) := by omega
        obtain ⟨g, hg⟩ : ∃ g, gs[i]? = some g := ⟨_, List.getElem?_eq_getElem hil⟩
        obtain ⟨b, hb⟩ : ∃ b, bls[i]? = some b := ⟨_, List.getElem?_eq_getElem (by omega)⟩
        have hbg := (hbk i g b hg hb).at_
        obtain ⟨ad, u, rfl, hadB, hu, hcell⟩ := hr.at_ hil
        rw [List.getElem?_map, hg] at hu
        injection hu with hu
        subst hu
        obtain ⟨ad0, u0, e0, _, _, hc0⟩ := hr.at_ (k := 0) (by omega)
        injection e0 with e0
        subst e0
        obtain ⟨bb, oo, rfl⟩ := plain_cell hc0
        clear hc0
        rw [add_off] at hcell
        have hadB' : bb < w1.heap.size := hadB
        have d3 := (hbr.cell (p := ⟨bb, oo + i, none⟩) hadB').trans hcell
        have hdr : bls.drop i = b :: bls.drop (i + 1) := by
          rw [List.drop_eq_getElem_cons (by omega)]
          rw [List.getElem?_eq_getElem (by omega)] at hb
          injection hb with hb
          rw [hb]
        rw [hdr, List.flatten_cons] at hrest
        have hbll := hbl' b (List.mem_of_getElem? hb)
        have hlen := Lib.hid (Len_any (hbg.below hbr))
        replace hb := Lib.hid hb
        replace hg := Lib.hid hg
        replace hdr := Lib.hid hdr
        replace hrest := Lib.hid hrest
        go_wp2_with fail
        refine hlen.out.mono ?_
        rintro e w3 ⟨rfl, hb3⟩
        have hSt3 := hSt.below hb3
        clear hb3 hlen d3
        go_wp2_with fail
        go_loopw [36] (fun jv wq => ∃ j tb out, j ≤ b.length ∧ jv = .int .i64 (j : Nat) ∧ restT T (b.drop j ++ (bls.drop (i + 1)).flatten) tb out ∧ OSt w1 wq gb w2.heap.size tb out (i * 32768 + j)) (fun jv _ => b.length - (intOf jv).toNat)
        case atStart => exact ⟨0, tb, out, Nat.zero_le _, rfl, hrest.out, hSt3⟩
        case round =>
          obtain ⟨j, tb, out, hj, rfl, hrest, hSt⟩ := hrel
          have hbq := hSt.bel
          by_cases hjl : j < b.length
          · have hjl' : ((j : Nat) : Int) < (b.length : Nat) := by omega
            obtain ⟨kk, vv, hkv⟩ : ∃ k v, b[j]? = some (k, v) := ⟨b[j].1, b[j].2, List.getElem?_eq_getElem hjl⟩
            have hdj : b.drop j = (kk, vv) :: b.drop (j + 1) := by
              rw [List.drop_eq_getElem_cons (by omega)]
              rw [List.getElem?_eq_getElem (by omega)] at hkv
              injection hkv with hkv
              rw [hkv]
            unfold restT at hrest
            rw [hdj, List.cons_append, againT_cons] at hrest
            have hat := Lib.hid (At_some (hbg.below hbq) j kk vv hkv)
            obtain ⟨hkl, hvl⟩ := bk_small hbg hkv
            have hent := Lib.hid fun W => entry_any (bs kk) (bs vv) W (by rw [bs_size]; omega) (by rw [bs_size]; omega)
            rw [bs_data, bs_data] at hent
            replace hdj := Lib.hid hdj
            replace hkv := Lib.hid hkv
            cases hpe : entryP kk vv with
            | none =>
              rw [hpe] at hent hrest
              have hfin : openT s.data.toList = none := by rw [hR2.out, show T = none from hrest]
              replace hfin := Lib.hid hfin
              replace hpe := Lib.hid hpe
              replace hrest := Lib.hid hrest
              go_wp2_with fail
              refine hat.out.mono ?_
              rintro e w4 ⟨rfl, hb4⟩
              unfold AtV
              go_wp2_with fail
              refine (hent.out _).mono ?_
              rintro e w5 ⟨rfl, hb5⟩
              have hbq5 := ((hb1.trans (hbq.mono hz1)).trans (hb4.mono (Nat.le_trans hz1 hbq.size))).trans (hb5.mono (by have := hbq.size; have := hb4.size; omega))
              have hz5 := hbq5.size
              unfold entV
              simp only [Option.getD, Option.isSome]
              unfold entC ent0
              go_wp2_with fail
              go_ret2
              exact ⟨OpnIs.none_ hfin.out, hbq5.alloc hz5 _⟩
            | some eo =>
              rw [hpe] at hent hrest
              have hsq := entry_seq hpe
              replace hpe := Lib.hid hpe
              replace hrest := Lib.hid hrest
              go_wp2_with fail
              refine hat.out.mono ?_
              rintro e w4 ⟨rfl, hb4⟩
              have hSt4 := hSt.below hb4
              unfold AtV
              clear hb4 hat hSt
              go_wp2_with fail
              refine (hent.out _).mono ?_
              rintro e w5 ⟨rfl, hb5⟩
              have hSt5 := (hSt4.below hb5).below ((Below.refl _ _).alloc (Nat.le_refl _) (.cells (entC eo) 33))
              have hadd := Lib.hid (hSt5.add hG1 (by omega) eo hsq)
              clear hb5 hent hSt4 hbq
              unfold entV
              simp only [Option.getD, Option.isSome]
              unfold entC at hadd hSt5 ⊢
              go_wp2_with fail
              refine hadd.out.mono ?_
              rintro e w6 ⟨rfl, hw6, hb6⟩
              replace hw6 := Lib.hid hw6
              go_wp2_with fail
              refine (hw6.out _ (Below.refl _ _)).mono ?_
              rintro e w7 ⟨rfl, hSt7⟩
              go_wp2_with fail
              exact ⟨⟨j + 1, _, _, by omega, by go_num, hrest.out, hSt7⟩, by first | omega | (simp only [intOf]; omega)⟩
          · obtain rfl : j = b.length := by omega
            have hjl' : ¬ ((b.length : Nat) : Int) < (b.length : Nat) := by omega
            rw [List.drop_length, List.nil_append] at hrest
            replace hrest := Lib.hid hrest
            go_wp2_with fail
            exact ⟨⟨i + 1, tb, out, by omega, by go_num, hrest.out, hSt.more (by rw [Nat.add_mul]; omega)⟩, by first | omega | (simp only [intOf]; omega)⟩
      · obtain rfl : i = gs.length := by omega
        have hil' : ¬ ((gs.length : Nat) : Int) < (gs.length : Nat) := by omega
        unfold restT at hrest
        rw [hgl, List.drop_length] at hrest
        have hrest2 : T = some (tb, out) := hrest
        have hfin : openT s.data.toList = if out ++ tb.outL = s.data.toList then some (f, ix, bls) else none := by rw [hR2.out, hrest2]
        have hf := Lib.hid (hSt.fin hG1 (by omega))
        replace hrest2 := Lib.hid hrest2
        clear hrest
        go_wp2_with fail
        refine hf.out.mono ?_
        rintro e w6 ⟨⟨hln1, hln2⟩, ⟨x, y, rfl⟩, hw6, hb6⟩
        have hlnn : ¬ 9223372036854775807 < (bs out).size + (bs tb.outL).size := by rw [bs_size, bs_size]; omega
        have hb6a := (Below.refl w6.heap.size w6).alloc (Nat.le_refl _) (.cells (tiC x) 26)
        replace hw6 := Lib.hid hw6
        unfold tiC strV at hb6a ⊢
        go_wp2_with fail
        refine (hw6.out _ hb6a).mono ?_
        rintro e w7 ⟨rfl, hb7⟩
        have hw7 := hb1.trans (hb7.mono hz1)
        have hT7 := hT1.below hb7
        replace hT7 := Lib.hid hT7
        by_cases hq : out ++ tb.outL = s.data.toList
        · rw [if_pos hq] at hfin
          have hc1 : bs out ++ bs tb.outL = s := by rw [bs_append, hq, bs_of]
          replace hfin := Lib.hid hfin
          replace hq := Lib.hid hq
          go_wp2_with fail
          go_ret2
          exact ⟨OpnIs.some_ hfin.out hT7.out, hw7⟩
        · rw [if_neg hq] at hfin
          have hc1 : ((bs out ++ bs tb.outL).toList == s.toList) = false := by
            rw [bs_append, bs_toList, ByteArray.toList_eq]
            simpa using hq
          replace hfin := Lib.hid hfin
          replace hq := Lib.hid hq
          go_wp2_with fail
          go_ret2
          exact ⟨OpnIs.none_ hfin.out, hw7⟩
theorem entsC_at : ∀ (l : List Ent) (i : Nat) (e : Ent), l[i]? = some e → (entsC l)[i * 4]? = some (.string (bs e.key)) ∧ (entsC l)[i * 4 + 1]? = some (.string (bs e.value)) ∧ (entsC l)[i * 4 + 2]? = some (.int .u64 (e.seq : Nat)) ∧ (entsC l)[i * 4 + 3]? = some (.bool e.gone)
  | [], i, e, h => by simp at h
  | x :: l, 0, e, h => by simp at h; subst h; exact ⟨rfl, rfl, rfl, rfl⟩
  | x :: l, i + 1, e, h => by
    have ih := entsC_at l i e (by simpa using h)
    have e1 : entsC (x :: l) = .string (bs x.key) :: .string (bs x.value) :: .int .u64 (x.seq : Nat) :: .bool x.gone :: entsC l := rfl
    rw [e1, show (i + 1) * 4 = i * 4 + 1 + 1 + 1 + 1 from by omega]
    simpa using ih
/-- A builder that entries were added to, and a row beside it. -/
def TSt (w0 wr : World) (n : Nat) (lv : Int) (gb : Nat) (es : List Ent) (v : Value) (row : List Ent) : Prop := ∃ F : Nat → Prop, TBIn wr F gb (runX n lv es).1 ∧ OwnE wr w0.heap.size v row ∧ (∀ k, F k → w0.heap.size ≤ k ∧ v.ownBlock ≠ some k) ∧ Below w0.heap.size w0 wr
section
variable {w0 wr w' : World} {n : Nat} {lv : Int} {gb : Nat} {es : List Ent} {v : Value} {rows : List Ent}
theorem TSt.bel (h : TSt w0 wr n lv gb es v rows) : Below w0.heap.size w0 wr := by
  obtain ⟨F, h1, h2, h3, h4⟩ := h
  exact h4
theorem TSt.row (h : TSt w0 wr n lv gb es v rows) : OwnE wr w0.heap.size v rows := by
  obtain ⟨F, h1, h2, h3, h4⟩ := h
  exact h2
theorem TSt.below (h : TSt w0 wr n lv gb es v rows) (hb : Below wr.heap.size wr w') : TSt w0 w' n lv gb es v rows := by
  obtain ⟨F, h1, h2, h3, h4⟩ := h
  exact ⟨F, h1.below hb, h2.below hb, h3, h4.trans (hb.mono h4.size)⟩
theorem TSt.new (hT : TBAt wr w0.heap.size gb (TB.new n lv) (.slice none 0 0) (.slice none 0 0) (.slice none 0 0) (.slice none 0 0) (.slice none 0 0) (.slice none 0 0)) (hb : Below w0.heap.size w0 wr) : TSt w0 wr n lv gb [] (.slice none 0 0) [] := by
  have h0 : TBIn wr (fun k => k = gb) gb (TB.new n lv) := by
    refine ⟨_, _, _, _, _, _, ⟨Nat.zero_le _, hT.blk, own_base hT.o1, own_base hT.p1, own_base hT.o2, own_base hT.p2, own_base hT.ok, own_base hT.op, hT.nb, hT.ns, hT.np⟩, fun k hk => ?_⟩
    rcases hk with hk | hk | hk | hk | hk | hk | hk
    · exact hk
    all_goals cases hk
  exact ⟨_, h0, OwnE.nil _ _, fun k hk => ⟨by have := hT.hB; omega, fun e => by cases e⟩, hb⟩
theorem TSt.add (h : TSt w0 wr n lv gb es v rows) (hG : Gl w0) (hN : es.length ≤ 1073741824) (e : Ent) (hsq : e.seq < 18446744073709551616) :
    Calls Tryd.prog 10 #[.pointer (some ⟨gb, 0, none⟩), .agg (entC e)] wr fun r w' => r = .returned (.tuple #[.string (bs ((runX n lv es).1.add e).2), .int .i64 ((runX n lv es).1.err e : Nat)]) ∧ TSt w0 w' n lv gb (es ++ [e]) v rows := by
  obtain ⟨F, h1, h2, h3, h4⟩ := h
  have hX := runX_I n lv es
  have hsn := runX_snoc n lv es e
  obtain ⟨⟨bl, cu, h6, h7⟩, hrun, hlen, hsub⟩ := hX
  unfold TSt
  rw [hsn]
  generalize runX n lv es = r at *
  refine (TAdd_any h1 (hG.below h4 hG.lt) e hsq (M := 1073741824) (Nat.le_refl _) (h6.tbd (by omega))).mono ?_
  rintro q w' ⟨rfl, hT, hk⟩
  refine ⟨rfl, _, hT, own_kept h2 hk (fun k e q => (h3 k q).2 e), fun k hk => ?_, hk.below_of h4 (fun k hk => (h3 k hk).1)⟩
  rcases hk with hk | hk
  · exact h3 k hk
  · have := h4.size
    exact ⟨by omega, fun e => by have := (own_lt h2 k e).2; omega⟩
theorem TSt.grow {ob : Obj} {v2 : Value} {row2 : List Ent} (h : TSt w0 wr n lv gb es v rows) (hg : (wr.alloc ob).grownBy w' v.ownBlock) (ho : OwnE w' w0.heap.size v2 row2) (hat : v2.ownBlock = v.ownBlock ∨ v2.ownBlock = some (wr.alloc ob).heap.size) : TSt w0 w' n lv gb es v2 row2 := by
  obtain ⟨F, h1, h2, h3, h4⟩ := h
  have hk : KeptBut wr w' (fun k => v.ownBlock = some k) := (KeptBut.of_below ((Below.refl _ _).alloc (Nat.le_refl _) ob)).then_grown hg (fun k e => e)
  refine ⟨_, (h1.cut).kept hk (fun k hf e => (h3 k hf.1).2 e), ho, fun k hf => ⟨(h3 k hf.1).1, fun e => ?_⟩, hk.below_of h4 (fun k e => (own_lt h2 k e).1)⟩
  rcases hat with e1 | e1
  · exact (h3 k hf.1).2 (by rw [← e1]; exact e)
  · rw [e1] at e
    injection e with e
    rw [World.size_alloc] at e
    have := hf.2
    omega
def finT (r : TB × L × List Ent) : TI := if r.2.2 = [] then ⟨0, 0, 0, 0, [], [], 0, 0⟩ else { r.1.t with size := (r.2.1 ++ r.1.outL).length }
def finE (r : TB × L × List Ent) : Nat := if r.2.2 = [] then 9 else 0
theorem TSt.fin (h : TSt w0 wr n lv gb es v rows) (hG : Gl w0) (hN : es.length ≤ 1073741824) :
    Calls Tryd.prog 9 #[.pointer (some ⟨gb, 0, none⟩)] wr fun r w' => r = .returned (.tuple #[.string (bs (runX n lv es).1.outL), .agg (tiC (finT (runX n lv es))), .int .i64 (finE (runX n lv es) : Nat)]) ∧ OwnE w' w0.heap.size v rows ∧ Below w0.heap.size w0 w' := by
  obtain ⟨F, h1, h2, h3, h4⟩ := h
  have hX := runX_I n lv es
  obtain ⟨⟨bl, cu, h6, h7⟩, hrun, hlen, hsub⟩ := hX
  generalize runX n lv es = r at *
  have hG0 := hG.lt
  by_cases hne : r.2.2 = []
  · obtain ⟨vb1, vs1, vb2, vs2, vk, vp, hT, hF⟩ := id h1
    have hc : r.1.t.count = 0 := by rw [h6.count, hne]; rfl
    refine (Fin_err hT.blk (.inr hc)).mono ?_
    rintro q w' ⟨rfl, hb⟩
    refine ⟨?_, h2.below hb, h4.trans (hb.mono h4.size)⟩
    unfold finT finE
    rw [if_pos hne, if_pos hne, h6.outL_nil hne]
    rfl
  · refine (Fin_run h1 (hG.below h4 hG0) (fun q => by have := (h3 0 q).1; omega) (fun q => by have := (h3 1 q).1; omega) h6 hne (by omega)).mono ?_
    rintro q w' ⟨rfl, _, hk⟩
    refine ⟨?_, own_kept h2 hk (fun k e q => (h3 k q).2 e), hk.below_of h4 (fun k hk => (h3 k hk).1)⟩
    unfold finT finE
    rw [if_neg hne, if_neg hne, List.length_append]
    rfl
end
theorem runX_len (n : Nat) (lv : Int) (es : List Ent) (h : es.length ≤ 1073741824) : (runX n lv es).2.1.length ≤ 1099511627776 ∧ (runX n lv es).1.outL.length ≤ 1099511627776 := by
  obtain ⟨⟨bl, cu, h6, h7⟩, hrun, hlen, hsub⟩ := runX_I n lv es
  have := h6.blen
  exact ⟨by omega, h6.outL_le (by omega)⟩
theorem piece_len (n : Nat) (lv : Int) (es : List Ent) (e : Ent) (h : es.length + 1 ≤ 1073741824) : (runX n lv es).2.1.length + ((runX n lv es).1.add e).2.length ≤ 1099511627776 := by
  have := (runX_len n lv (es ++ [e]) (by simp; omega)).1
  rw [runX_snoc] at this
  unfold stepX at this
  simp only [List.length_append] at this
  exact this
set_option maxRecDepth 100000 in
set_option maxHeartbeats 1000000 in
theorem small_any (w : World) : Calls Tryd.prog 46 #[] w fun e w' => (∃ g, e = .returned (.slice (some ⟨g, 0, none⟩) 3 3) ∧ g < w'.heap.size ∧ ∀ j u, (entsC small3)[j]? = some u → w'.cell? ⟨g, j, none⟩ = some u) ∧ Below w.heap.size w w' := by
  go_enter Tryd.func46, Tryd.ntmps46
  go_wp2_with fail
  go_ret
  refine ⟨⟨_, rfl, by rw [World.size_alloc]; omega, fun j u hu => ?_⟩, (Below.refl _ _).alloc (Nat.le_refl _) _⟩
  have h1 := (Blk.new w 33 (entsC small3).toArray).cell j
  rw [List.getElem?_toArray] at h1
  exact h1.trans hu
set_option maxRecDepth 100000 in
set_option maxHeartbeats 4000000 in
theorem Built_any (n : Nat) (lv : Int) (A : Option Addr) (l : List Ent) (cap : Nat) (w : World) (hG : Gl w) (hr : Reads w w.heap.size 4 A l.length (entsC l)) (hl : l.length ≤ 1048576) (hsq : ∀ e ∈ l, e.seq < 18446744073709551616) :
    Calls Tryd.prog 45 #[.int .u64 (n : Nat), .int .i64 lv, .slice A l.length cap] w fun e w' => e = .returned (.tuple #[.string (bs ((runX n lv l).2.1 ++ (runX n lv l).1.outL)), .agg (tiC (finT (runX n lv l))), .int .i64 (finE (runX n lv l) : Nat)]) ∧ Below w.heap.size w w' := by
  obtain ⟨w0, hw0⟩ : ∃ w0, w.alloc (.cells #[.int .u64 0, .int .i64 0, .int .i64 0, .int .i64 0, .string ⟨#[]⟩, .string ⟨#[]⟩, .int .u64 0, .int .u64 0] 26) = w0 := ⟨_, rfl⟩
  have hA : Below w.heap.size w w0 := by rw [← hw0]; exact (Below.refl _ _).alloc (Nat.le_refl _) _
  have hR0 : Blk w0 w.heap.size 26 #[.int .u64 0, .int .i64 0, .int .i64 0, .int .i64 0, .string ⟨#[]⟩, .string ⟨#[]⟩, .int .u64 0, .int .u64 0] := by rw [← hw0]; exact Blk.new _ _ _
  have hnew := Lib.hid (New_any n lv w0)
  have hGl := hG.lt
  have hG0 := hG.below hA hGl
  have hrl := hR0.lt
  have hz0 : w0.heap.size = w.heap.size + 1 := by rw [← hw0, World.size_alloc]
  have hrd0 := (hr.below hA).more hA.size
  replace hz0 := Lib.hid hz0
  go_enter Tryd.func45, Tryd.ntmps45
  go_wp2_with fail
  replace hw0 := Lib.hid hw0
  refine hnew.out.mono ?_
  rintro e w1 ⟨⟨gb, rfl, hB1⟩, hb1⟩
  have hS1 := TSt.new hB1 hb1
  clear hnew hB1 hb1
  go_wp2_with fail
  go_loopw [10, 11] (fun sv iv wr => ∃ i, i ≤ l.length ∧ iv = .int .i64 (i : Nat) ∧ sv = .string (bs (runX n lv (l.take i)).2.1) ∧ TSt w0 wr n lv gb (l.take i) (.slice none 0 0) []) (fun _ iv _ => l.length - (intOf iv).toNat)
  case atStart => exact ⟨0, Nat.zero_le _, rfl, rfl, hS1⟩
  case round =>
    obtain ⟨i, hi, rfl, rfl, hSt⟩ := hrel
    have hbr := hSt.bel
    by_cases hil : i < l.length
    · have hil' : ((i : Nat) : Int) < (l.length : Nat) := by omega
      have hx := List.getElem?_eq_getElem hil
      have hsn : l.take (i + 1) = l.take i ++ [l[i]] := by rw [List.take_succ_eq_append_getElem hil]
      have hsq1 := hsq _ (List.getElem_mem hil)
      obtain ⟨ad, rfl, hab, hcell⟩ := (hrd0.below hbr).2 (by omega)
      obtain ⟨q0, q1, q2, q3⟩ := entsC_at l i _ hx
      replace q0 := hcell _ _ q0
      replace q1 := hcell _ _ q1
      replace q2 := hcell _ _ q2
      replace q3 := hcell _ _ q3
      rw [← add_of_add, add_pos] at q1 q2 q3
      clear hcell
      replace hx := Lib.hid hx
      have htl : (l.take i).length ≤ i := by rw [List.length_take]; omega
      generalize l[i] = eo at *
      generalize l.take i = es at *
      have hadd := Lib.hid (hSt.add hG0 (by omega) eo hsq1)
      have hpl := piece_len n lv es eo (by omega)
      have hrs := runX_snoc n lv es eo
      replace hsn := Lib.hid hsn
      unfold entC at hadd
      unfold stepX at hrs
      obtain ⟨r, hrr⟩ : ∃ r, r = runX n lv es := ⟨_, rfl⟩
      rw [← hrr] at hrs hpl hadd ⊢
      replace hrr := Lib.hid hrr
      replace hrs := Lib.hid hrs
      go_wp2_with fail
      refine hadd.out.mono ?_
      rintro e w2 ⟨rfl, hSt2⟩
      have hszz : ¬ 9223372036854775807 < (bs r.2.1).size + (bs (r.1.add eo).2).size := by rw [bs_size, bs_size]; omega
      go_wp2_with fail
      refine ⟨⟨i + 1, by omega, by go_num, ?_, by rw [hsn.out]; exact hSt2⟩, by first | omega | (simp only [intOf]; omega)⟩
      rw [hsn.out, hrs.out, bs_append]
    · obtain rfl : i = l.length := by omega
      have hil' : ¬ ((l.length : Nat) : Int) < (l.length : Nat) := by omega
      rw [List.take_length] at hSt ⊢
      have hfin := Lib.hid (hSt.fin hG0 (by omega))
      have hln := runX_len n lv l (by omega)
      obtain ⟨r, hrr⟩ : ∃ r, r = runX n lv l := ⟨_, rfl⟩
      obtain ⟨x, hxx⟩ : ∃ x, x = finT (runX n lv l) := ⟨_, rfl⟩
      rw [← hxx] at hfin
      rw [← hrr] at hfin hln ⊢
      replace hrr := Lib.hid hrr
      replace hxx := Lib.hid hxx
      go_wp2_with fail
      refine hfin.out.mono ?_
      rintro e w2 ⟨rfl, _, hb2⟩
      have hR2 := hR0.below hb2 hrl
      have hb02 := hA.trans (hb2.mono hA.size)
      have hT3 := Blk.new w2 26 (tiC x)
      have hR3 := hR2.below ((Below.refl w2.heap.size w2).alloc (Nat.le_refl _) (.cells (tiC x) 26)) hR2.lt
      have hb03 := hb02.alloc hb02.size (.cells (tiC x) 26)
      have hl3 : w2.heap.size < (w2.alloc (.cells (tiC x) 26)).heap.size := by rw [World.size_alloc]; omega
      have hszz : ¬ 9223372036854775807 < (bs r.2.1).size + (bs r.1.outL).size := by rw [bs_size, bs_size]; omega
      unfold tiC strV at hT3 hR3 hb03 hl3 ⊢
      go_wp2_with fail
      generalize hw3 : w2.alloc (.cells #[.int .u64 (x.n : Nat), .int .i64 x.level, .int .i64 (x.count : Nat), .int .i64 (x.size : Nat), .string (bs x.first), .string (bs x.last), .int .u64 (x.least : Nat), .int .u64 (x.most : Nat)] 26) = w3 at *
      have z0 := hT3.cell 0
      have z1 := hT3.cell 1
      have z2 := hT3.cell 2
      have z3 := hT3.cell 3
      have z4 := hT3.cell 4
      have z5 := hT3.cell 5
      have z6 := hT3.cell 6
      have z7 := hT3.cell 7
      simp only [List.getElem?_toArray, List.getElem?_cons_zero, List.getElem?_cons_succ] at z0 z1 z2 z3 z4 z5 z6 z7
      replace hw3 := Lib.hid hw3
      have hxc := @Ext.cell
      have hxf := @Ext.frozen
      refine wp_hide (fun Q0 hQ0 => ?_)
      refine wp_region_line (fun w' => ∃ x : Ext _, w' = x.w) [some false, some false, some false, some false, some true, some false, none, none] 0 (by kernel_rfl) (by kernel_rfl) ⟨⟨_, (Below.refl _ _).drew⟩, rfl⟩ ?_
      simp only [earlyL, tailL]
      repeat (first | ((with_reducible refine wpMix_p ?_); go_big_quiet_step (fail); refine wpQuiet_nil ?_) | ((with_reducible refine wpMix_e ?_); go_big_quiet_step ((first | fail)); refine wpQuiet_nil ?_))
      refine wpMix_nil ?_
      clear hxc hxf
      intro wx hwx
      obtain ⟨x, hx⟩ := hwx
      have hb := x.below
      rw [← hx] at hb
      clear hx x
      have hRx := hR3.below hb hR3.lt
      have hbx := hb03.trans (hb.mono hb03.size)
      have x0 := hRx.cell 0
      have x1 := hRx.cell 1
      have x2 := hRx.cell 2
      have x3 := hRx.cell 3
      have x4 := hRx.cell 4
      have x5 := hRx.cell 5
      have x6 := hRx.cell 6
      have x7 := hRx.cell 7
      have u0 := hRx.frozen 0
      have u1 := hRx.frozen 1
      have u2 := hRx.frozen 2
      have u3 := hRx.frozen 3
      have u4 := hRx.frozen 4
      have u5 := hRx.frozen 5
      have u6 := hRx.frozen 6
      have u7 := hRx.frozen 7
      have ul := hRx.lt
      simp only [List.getElem?_toArray, List.getElem?_cons_zero, List.getElem?_cons_succ] at x0 x1 x2 x3 x4 x5 x6 x7
      clear z0 z1 z2 z3 z4 z5 z6 z7
      have hfinR := ti_set hRx x
      replace hfinR := Lib.hid hfinR
      have hbf := (((((((hbx.setCell (p := ⟨w.heap.size, 0, none⟩) (Nat.le_refl _) (.int .u64 (x.n : Nat))).setCell (p := ⟨w.heap.size, 1, none⟩) (Nat.le_refl _) (.int .i64 x.level)).setCell (p := ⟨w.heap.size, 2, none⟩) (Nat.le_refl _) (.int .i64 (x.count : Nat))).setCell (p := ⟨w.heap.size, 3, none⟩) (Nat.le_refl _) (.int .i64 (x.size : Nat))).setCell (p := ⟨w.heap.size, 4, none⟩) (Nat.le_refl _) (.string (bs x.first))).setCell (p := ⟨w.heap.size, 5, none⟩) (Nat.le_refl _) (.string (bs x.last))).setCell (p := ⟨w.heap.size, 6, none⟩) (Nat.le_refl _) (.int .u64 (x.least : Nat))).setCell (p := ⟨w.heap.size, 7, none⟩) (Nat.le_refl _) (.int .u64 (x.most : Nat))
      replace hbf := Lib.hid hbf
      refine wpTail_step ?_
      intro Q1 hQ1
      go_wp2_with (fail)
      refine hQ1 _ _ rfl (fun h => absurd h (by decide)) ?_
      clear hQ1 Q1
      refine wpTail_step ?_
      intro Q1 hQ1
      go_wp2_with (fail)
      refine hQ1 _ _ rfl (fun h => absurd h (by decide)) ?_
      clear hQ1 Q1
      refine wpTail_nil ?_
      refine hQ0 _ _ ?_
      clear hQ0 Q0
      go_wp2_with fail
      refine bodyPost_ret (v := .tuple #[.string (bs (r.2.1 ++ r.1.outL)), .agg (tiC x), .int .i64 (finE r : Nat)]) (results_tct rfl _ _ w.heap.size _ _ _ (by rw [← bs_append]; rfl) rfl rfl (load_ti hfinR.out rfl)) rfl ⟨by rw [← hrr.out, hxx.out, ← hrr.out], hbf.out⟩
theorem Row_nat (n : Nat) (w : World) (h : n < 18446744073709551616) : Calls Tryd.prog 69 #[.int .u64 (n : Nat)] w fun e w' => e = .returned (.string (bs (varL1 n))) ∧ Below w.heap.size w w' := by
  have := Row_any (n : Int) w (by omega) (by omega)
  rw [Int.toNat_natCast, rowL_eq n h] at this
  exact this
set_option maxRecDepth 100000 in
set_option maxHeartbeats 2000000 in
theorem RVar_any (A : Option Addr) (ns : List Nat) (cap : Nat) (w : World) (hr : Reads w w.heap.size 1 A ns.length (ns.map fun n => Value.int .u64 (n : Nat))) (hl : ns.length ≤ 1048576) (hn : ∀ n ∈ ns, n < 18446744073709551616) :
    Calls Tryd.prog 72 #[.slice A ns.length cap] w fun e w' => e = .returned (.string (bs (varL ns))) ∧ Below w.heap.size w w' := by
  go_enter Tryd.func72, Tryd.ntmps72
  go_wp2_with fail
  go_loopw [3, 4] (fun sv iv wr => ∃ i, i ≤ ns.length ∧ iv = .int .i64 (i : Nat) ∧ sv = .string (bs (varL (ns.take i))) ∧ Below w.heap.size w wr) (fun _ iv _ => ns.length - (intOf iv).toNat)
  case atStart => exact ⟨0, Nat.zero_le _, rfl, rfl, Below.refl _ _⟩
  case round =>
    obtain ⟨i, hi, rfl, rfl, hbr⟩ := hrel
    have hzr := hbr.size
    by_cases hil : i < ns.length
    · have hil' : ((i : Nat) : Int) < (ns.length : Nat) := by omega
      have hx := List.getElem?_eq_getElem hil
      have hsn : varL (ns.take (i + 1)) = varL (ns.take i) ++ varL1 ns[i] := by rw [List.take_succ_eq_append_getElem hil, varL_snoc]
      obtain ⟨ad, u, rfl, hadB, hu, hcell⟩ := (hr.below hbr).at_ hil
      rw [List.getElem?_map, hx] at hu
      injection hu with hu
      subst hu
      have hlv := varL_len (ns.take i)
      rw [List.length_take] at hlv
      have hlr := varL1_len ns[i]
      have hrow := Row_nat ns[i] wr (hn _ (List.getElem_mem hil))
      replace hx := Lib.hid hx
      generalize varL1 ns[i] = R at *
      generalize varL (ns.take i) = V at *
      generalize ns[i] = n at *
      have hsz : ¬ 9223372036854775807 < (bs V).size + (bs R).size := by rw [bs_size, bs_size]; omega
      replace hsn := Lib.hid hsn
      replace hrow := Lib.hid hrow
      go_wp2_with fail
      refine hrow.out.mono ?_
      rintro e w1 ⟨rfl, hb1⟩
      go_wp2_with fail
      refine ⟨⟨i + 1, by omega, by go_num, by rw [hsn.out, bs_append], hbr.trans (hb1.mono hzr)⟩, by first | omega | (simp only [intOf]; omega)⟩
    · obtain rfl : i = ns.length := by omega
      have hil' : ¬ ((ns.length : Nat) : Int) < (ns.length : Nat) := by omega
      rw [List.take_length]
      go_wp2_with fail
      go_ret
      exact ⟨rfl, hbr⟩
set_option maxRecDepth 100000 in
set_option maxHeartbeats 2000000 in
theorem RText_any (A : Option Addr) (ss : List L) (cap : Nat) (w : World) (hr : Reads w w.heap.size 1 A ss.length (ss.map strV)) (hl : ss.length ≤ 1048576) (hn : ∀ s ∈ ss, s.length ≤ 1048576) :
    Calls Tryd.prog 85 #[.slice A ss.length cap] w fun e w' => e = .returned (.string (bs (textL ss))) ∧ Below w.heap.size w w' := by
  have htl : ∀ l : List L, (∀ s ∈ l, s.length ≤ 1048576) → (textL l).length ≤ 1048585 * l.length := by
    intro l
    induction l with
    | nil => intro _; simp [textL]
    | cons a l ih =>
      intro h
      have h1 := ih (fun s hs => h s (List.mem_cons_of_mem _ hs))
      have h2 := h a (List.mem_cons_self ..)
      have h3 := varL1_len a.length
      simp only [textL, List.length_append, List.length_cons]
      omega
  go_enter Tryd.func85, Tryd.ntmps85
  go_wp2_with fail
  go_loopw [3, 4] (fun sv iv wr => ∃ i, i ≤ ss.length ∧ iv = .int .i64 (i : Nat) ∧ sv = .string (bs (textL (ss.take i))) ∧ Below w.heap.size w wr) (fun _ iv _ => ss.length - (intOf iv).toNat)
  case atStart => exact ⟨0, Nat.zero_le _, rfl, rfl, Below.refl _ _⟩
  case round =>
    obtain ⟨i, hi, rfl, rfl, hbr⟩ := hrel
    have hzr := hbr.size
    by_cases hil : i < ss.length
    · have hil' : ((i : Nat) : Int) < (ss.length : Nat) := by omega
      have hx := List.getElem?_eq_getElem hil
      have hsn : textL (ss.take (i + 1)) = textL (ss.take i) ++ (varL1 ss[i].length ++ ss[i]) := by rw [List.take_succ_eq_append_getElem hil, textL_snoc]
      have hlv := htl (ss.take i) (fun s hs => hn s (List.mem_of_mem_take hs))
      rw [List.length_take] at hlv
      have hsl := hn _ (List.getElem_mem hil)
      obtain ⟨ad, u, rfl, hadB, hu, hcell⟩ := (hr.below hbr).at_ hil
      rw [List.getElem?_map, hx] at hu
      injection hu with hu
      subst hu
      obtain ⟨ad0, u0, e0, _, _, hc0⟩ := (hr.below hbr).at_ (k := 0) (by omega)
      injection e0 with e0
      subst e0
      obtain ⟨bb, oo, rfl⟩ := plain_cell hc0
      clear hc0
      rw [add_off] at hcell
      have hadB' : bb < wr.heap.size := Nat.lt_of_lt_of_le hadB hzr
      have hlr := varL1_len ss[i].length
      unfold strV at hcell
      replace hx := Lib.hid hx
      generalize ss[i] = s at *
      have hrow := Lib.hid fun W => Row_nat s.length W (by omega)
      have hss : (bs s).size = s.length := bs_size _
      have hw : IntKind.u64.wrap ((s.length : Nat) : Int) = (s.length : Nat) := by rw [IntKind.wrap_u64]; omega
      generalize varL1 s.length = R at *
      generalize textL (ss.take i) = V at *
      have hsz : ¬ 9223372036854775807 < (bs V).size + (bs R).size := by rw [bs_size, bs_size]; omega
      have hsz2 : ¬ 9223372036854775807 < (bs (V ++ R)).size + (bs s).size := by rw [bs_size, bs_size, List.length_append]; omega
      have hap := bs_append V R
      replace hsn := Lib.hid hsn
      go_wp2_with fail
      have hxc := @Ext.cell
      refine wp_region_ext (by kernel_rfl) (by kernel_rfl) ?_
      repeat (go_big_quiet_step ((first | (go_at_call 69; exact Calls.ext (hrow.out _)))))
      refine wpQuiet_nil ?_
      clear hxc
      intro wx hwx
      obtain ⟨x, hx⟩ := hwx
      have hb := x.below
      rw [← hx] at hb
      clear hx x
      go_wp2_with fail
      refine ⟨⟨i + 1, by omega, by go_num, by rw [hsn.out, ← List.append_assoc, ← bs_append (V ++ R)], hbr.trans (hb.mono hzr)⟩, by first | omega | (simp only [intOf]; omega)⟩
    · obtain rfl : i = ss.length := by omega
      have hil' : ¬ ((ss.length : Nat) : Int) < (ss.length : Nat) := by omega
      rw [List.take_length]
      go_wp2_with fail
      go_ret
      exact ⟨rfl, hbr⟩
/-- What a run's bytes open to. -/
theorem opened (n : Nat) (lv : Int) (es : List Ent) (hl : es.length ≤ 1000000) (hne : (runX n lv es).2.2 ≠ []) : ∃ bls, openT ((runX n lv es).2.1 ++ (runX n lv es).1.outL) = some (filterL (runX n lv es).1.fin.keys, ixOf 0 bls, bls) ∧ RunI n lv (runX n lv es).2.2 (runX n lv es).1.fin ((runX n lv es).2.1 ++ (runX n lv es).1.rest) bls [] := by
  obtain ⟨⟨bl, cu, h6, h7⟩, hrun, hlen, hsub⟩ := runX_I n lv es
  generalize runX n lv es = r at *
  obtain ⟨bls, h1, h2⟩ := openT_run h6 hrun hne (by omega)
  refine ⟨bls, ?_, h2⟩
  have e : r.1.fin.keys = r.1.keys := by unfold TB.fin; split <;> rfl
  rw [e]
  exact h1
theorem RunI.may_len {n : Nat} {lv : Int} {own : List Ent} {s : TB} {out : L} {bls : List (List (L × L))} {cur : List (L × L)} (h : RunI n lv own s out bls cur) (hM : own.length ≤ 1000000) : (filterL s.keys).length ≤ 68719476736 := by
  have := h.kl
  rw [filterL_len]
  unfold filterN
  omega
theorem RunI.tiC_ {n : Nat} {lv : Int} {own : List Ent} {s : TB} {out : L} {bls : List (List (L × L))} {cur : List (L × L)} (h : RunI n lv own s out bls cur) (z : Nat) : ({ s.t with size := z } : TI) = ⟨n, lv, own.length, z, (own.head?.map (·.key)).getD [], (own.getLast?.map (·.key)).getD [], own.foldl (fun a e => min a e.seq) (headD own), own.foldl (fun a e => max a e.seq) (headD own)⟩ := by
  have h1 := h.tn
  have h2 := h.tl
  have h3 := h.count
  have h4 := h.first
  have h5 := h.tlast
  have h6 := h.least
  have h7 := h.most
  generalize s.t = t at *
  obtain ⟨a, b, c, d, e, f, g, i⟩ := t
  simp only at h1 h2 h3 h4 h5 h6 h7
  subst h1 h2 h3 h4 h5 h6 h7
  rfl
theorem finT_own {n : Nat} {lv : Int} {es : List Ent} (hne : (runX n lv es).2.2 ≠ []) : finT (runX n lv es) = ⟨n, lv, (runX n lv es).2.2.length, ((runX n lv es).2.1 ++ (runX n lv es).1.outL).length, ((runX n lv es).2.2.head?.map (·.key)).getD [], ((runX n lv es).2.2.getLast?.map (·.key)).getD [], (runX n lv es).2.2.foldl (fun a e => min a e.seq) (headD (runX n lv es).2.2), (runX n lv es).2.2.foldl (fun a e => max a e.seq) (headD (runX n lv es).2.2)⟩ := by
  obtain ⟨⟨bl, cu, h6, h7⟩, hrun, hlen, hsub⟩ := runX_I n lv es
  unfold finT
  rw [if_neg hne]
  exact h6.tiC_ _
structure AwkP (S f : L) (ix : List (L × L)) (bls : List (List (L × L))) : Prop where
  op : openT S = some (f, ix, bls)
  len : S.length ≤ 98304
  fl : f.length ≤ 68719476736
  bl : bls.length = ix.length
  g1 : getP f ix bls [97] 9 = some ⟨[97], [120], 5, false⟩
  g2 : getP f ix bls [97] 4 = some ⟨[97], [], 3, true⟩
  g3 : getP f ix bls [97] 2 = none
  r1 : (rangeP ix bls [97] [98]).length = 2
  r2 : (rangeP ix bls [] []).length = 3
  m : mayL f [98] = true
theorem awk_plain : ∃ S f ix bls, (runX 7 1 small3).2.1 ++ (runX 7 1 small3).1.outL = S ∧ finT (runX 7 1 small3) = ⟨7, 1, 3, S.length, [97], [98], 3, 9⟩ ∧ finE (runX 7 1 small3) = 0 ∧ AwkP S f ix bls := by
  have hne : (runX 7 1 small3).2.2 ≠ [] := by rw [small_own]; decide
  have hT := finT_own hne
  have hE : finE (runX 7 1 small3) = 0 := by unfold finE; rw [if_neg hne]
  obtain ⟨bls, h1, h2⟩ := opened 7 1 small3 (by decide) hne
  obtain ⟨⟨bl, cu, h6, h7⟩, hrun, hlen, hsub⟩ := runX_I 7 1 small3
  have hsm := small_own
  generalize runX 7 1 small3 = r at *
  rw [hsm] at hT h2 h6
  refine ⟨_, _, _, bls, rfl, hT, hE, h1, ?_, h2.may_len (by decide), (ixOf_len bls 0).symm, ?_, ?_, ?_, ?_, ?_, ?_⟩
  · exact h6.file_len (by decide) (by decide)
  · exact get_newest h2 (i := 0) (e := ⟨[97], [120], 5, false⟩) rfl (by decide) (by decide) (fun j x hj => by omega)
  · refine get_newest h2 (i := 1) (e := ⟨[97], [], 3, true⟩) rfl (by decide) (by decide) (fun j x hj hx => ?_)
    obtain rfl : j = 0 := by omega
    injection hx with hx
    subst hx
    exact .inr (by decide)
  · rcases hg : getP (filterL r.1.fin.keys) (ixOf 0 bls) bls [97] 2 with _ | b
    · rfl
    · exfalso
      obtain ⟨e1, e2, e3⟩ := get_is h2 (by decide) hg
      simp only [small3, List.mem_cons, List.not_mem_nil, or_false] at e3
      rcases e3 with rfl | rfl | rfl
      · exact absurd e2 (by decide)
      · exact absurd e2 (by decide)
      · exact absurd e1 (by decide)
  · rw [range_run h2]
    decide
  · rw [range_run h2]
    decide
  · exact h2.may (e := ⟨[98], [121], 9, false⟩) (by simp [small3])
end Go.Proofs.YtfnlponoakhegaaDoor
