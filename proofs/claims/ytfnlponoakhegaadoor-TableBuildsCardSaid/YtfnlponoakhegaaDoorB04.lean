/- Contracts: table: entry. table.Builder in memory; New, bad. Contracts: bloom: Hash. Package bloom, plain. Package table, plain: how a table's bytes are read. The order of internal keys. No program in sight. Package table, plain: entries' order by their internal keys. Package table, plain: what a builder's run leaves. Package table, plain: what was built opens. Package table, plain: what is got, and a range. table.Builder: New, bad. table.Builder: what an operation leaves; ends. -/
import Derived.Test.YtfnlponoakhegaaDoorB02
import Derived.Test.YtfnlponoakhegaaDoorTBNJ
import Derived.Laws.ResultCell
import Derived.Test.YtfnlponoakhegaaDoorB01
import Derived.Test.YtfnlponoakhegaaDoorB00
namespace Go.Proofs.YtfnlponoakhegaaDoor
open Go.RowKit
set_option linter.unusedVariables false
set_option linter.unusedSimpArgs false
theorem results_row_tmp {fn : Func} {p u : Tmp} {ty : TypeId} (h : fn.results = #[.cell p ty, .tmp u]) (tmps : Array Value) (w : World) (g : Nat) (v x : Value)
    (hp : tmps.getD p undef = .pointer (some ⟨g, 0, none⟩)) (hx : tmps.getD u undef = x) (hl : (loadVar ty ⟨g, 0, none⟩).run Tryd.prog w = .ok v w) :
    (results fn tmps).run Tryd.prog w = .ok (.tuple #[v, x]) w := by
  rw [results_cell_tmp h, hp, hx]
  simp [asAddr, hl]
theorem load_ent {w : World} {g : Nat} {cs : Array Value} (h : Blk w g 33 cs) (hs : cs.size = 4) : (loadVar 33 ⟨g, 0, none⟩).run Tryd.prog w = .ok (.agg cs) w :=
  run_loadVar_row w g 33 33 cs (0, 0) _ h Tryd.underlying33 rfl (by rw [hs]; kernel_rfl)
def entC (e : Ent) : Array Value := #[.string (bs e.key), .string (bs e.value), .int .u64 (e.seq : Nat), .bool e.gone]
def ent0 : Ent := ⟨[], [], 0, false⟩
def entV (o : Option Ent) : Value := .tuple #[.agg (entC (o.getD ent0)), .bool o.isSome]
theorem ent_set {w : World} {g t : Nat} {cs : Array Value} (h : Blk w g t cs) (hs : cs.size = 4) (e : Ent) : Blk ((((w.setCell ⟨g, 0, none⟩ (.string (bs e.key))).setCell ⟨g, 1, none⟩ (.string (bs e.value))).setCell ⟨g, 2, none⟩ (.int .u64 (e.seq : Nat))).setCell ⟨g, 3, none⟩ (.bool e.gone)) g t (entC e) := by
  have := (((h.set_ 0 (.string (bs e.key))).set_ 1 (.string (bs e.value))).set_ 2 (.int .u64 (e.seq : Nat))).set_ 3 (.bool e.gone)
  rcases cs with ⟨_ | ⟨a, _ | ⟨b, _ | ⟨c, _ | ⟨d, _ | ⟨x, l⟩⟩⟩⟩⟩⟩
  all_goals first | exact this | (simp at hs; done) | (simp at hs; omega)
set_option maxRecDepth 100000 in
set_option maxHeartbeats 1000000 in
theorem entry_any (k v : ByteArray) (w : World) (hk : k.size ≤ 1048576) (hv : v.size ≤ 1048576) :
    Calls Tryd.prog 36 #[.string k, .string v] w fun e w' => e = .returned (entV (entryP k.data.toList v.data.toList)) ∧ Below w.heap.size w w' := by
  have hE : entryP k.data.toList v.data.toList = if k.size < 8 ∨ v.data.toList = [] then none else match partsP (k.data.toList.take (k.size - 8)) with
    | some [p] => some ⟨p.s, v.data.toList.drop 1, 18446744073709551615 - beV (k.data.toList.drop (k.size - 8)), v.data.toList.take 1 == [1]⟩
    | _ => none := by
    unfold entryP
    rw [dlen]
    rfl
  have hne : v.data.toList = [] ↔ v.size = 0 := by
    constructor
    · intro h; rw [← dlen, h]; rfl
    · intro h; exact List.eq_nil_of_length_eq_zero (by rw [dlen]; exact h)
  by_cases h8 : k.size < 8
  · have h8' : ((k.size : Nat) : Int) - 8 < 0 := by omega
    rw [if_pos (.inl h8)] at hE
    replace hE := Lib.hid hE
    clear hne
    go_enter Tryd.func36, Tryd.ntmps36
    go_wp2_with fail
    exact bodyPost_ret (v := entV none) (results_row_tmp rfl _ _ w.heap.size (.agg (entC ent0)) (.bool false) rfl rfl (load_ent (Blk.new w _ _) rfl)) rfl ⟨by rw [hE.out], (Below.refl _ _).alloc (Nat.le_refl _) _⟩
  · have h8' : ¬ ((k.size : Nat) : Int) - 8 < 0 := by omega
    by_cases hv0 : v.size = 0
    · rw [if_pos (.inr (hne.2 hv0))] at hE
      have hvl : v.toList = [] := by rw [ByteArray.toList_eq]; exact hne.2 hv0
      have hle : (v.toList == ([] : L)) = true := by rw [hvl]; rfl
      replace hE := Lib.hid hE
      clear hne
      go_enter Tryd.func36, Tryd.ntmps36
      go_wp2_with fail
      exact bodyPost_ret (v := entV none) (results_row_tmp rfl _ _ w.heap.size (.agg (entC ent0)) (.bool false) rfl rfl (load_ent (Blk.new w _ _) rfl)) rfl ⟨by rw [hE.out], (Below.refl _ _).alloc (Nat.le_refl _) _⟩
    · have hvn : v.data.toList ≠ [] := fun e => hv0 (hne.1 e)
      rw [if_neg (fun h => h.elim h8 hvn)] at hE
      have hvl : v.toList ≠ [] := by rw [ByteArray.toList_eq]; exact hvn
      have hle : (v.toList == ([] : L)) = false := by simpa using hvl
      obtain ⟨m, hm⟩ : ∃ m, k.size = m + 8 := ⟨k.size - 8, by omega⟩
      have hm1 : k.size - 8 = m := by omega
      have hsm : ((k.size : Nat) : Int) - 8 = (m : Nat) := by omega
      have hml : ((m : Nat) : Int) ≤ k.size := by omega
      rw [hm1] at hE
      have hb0 : Below w.heap.size w (w.alloc (.cells (entC ent0) 33)) := (Below.refl _ _).alloc (Nat.le_refl _) _
      have hz0 := hb0.size
      have hl8 : (k.data.toList.drop m).length = 8 := by rw [List.length_drop, dlen]; omega
      have hrb : readBig (k.data.toList.drop m) 8 = some (beV (k.data.toList.drop m)) := by
        unfold readBig
        rw [if_neg (by rw [hl8]; omega), List.take_of_length_le (by rw [hl8]; decide)]
      have hnl : beV (k.data.toList.drop m) < 18446744073709551616 := readBig_lt hrb
      have hrd := ReadBig_some (k.extract m k.size) 8 (beV (k.data.toList.drop m)) (w.alloc (.cells (entC ent0) 33)) (by unfold maxLen; simp; omega) (by omega) (by omega) (by rw [drop_data]; exact hrb)
      have hpx : (k.extract 0 m).data.toList = k.data.toList.take m := by rw [ext_bs, bs_data]; simp
      have hpa := fun W => Parts_any (k.extract 0 m) W (by simp; omega)
      rw [hpx] at hpa
      have hnot := not_u64 (beV (k.data.toList.drop m)) hnl
      generalize beV (k.data.toList.drop m) = n at *
      generalize 18446744073709551615 - n = q at *
      generalize k.data.toList.take m = kp at *
      replace hm := Lib.hid hm
      replace hrd := Lib.hid hrd
      clear hne hm1 hrb hpx hl8 h8' hvn hb0
      have hb0 : Below w.heap.size w (w.alloc (.cells (entC ent0) 33)) := (Below.refl _ _).alloc (Nat.le_refl _) _
      rcases hpp : partsP kp with _ | ps
      · rw [hpp] at hpa hE
        have hE2 : entryP k.data.toList v.data.toList = none := hE
        replace hpa := Lib.hid hpa
        replace hE2 := Lib.hid hE2
        clear hE
        go_enter Tryd.func36, Tryd.ntmps36
        go_wp2_with fail
        refine hrd.out.mono ?_
        rintro e w1 ⟨rfl, hb1⟩
        have hB1 := (Blk.new w 33 (entC ent0)).below hb1 (by rw [World.size_alloc]; omega)
        go_wp2_with fail
        refine (hpa.out w1).mono ?_
        rintro e w2 ⟨rfl, hb2⟩
        have hB2 := hB1.below hb2 hB1.lt
        have hb12 := hb1.trans (hb2.mono hb1.size)
        have hbw := hb0.trans (hb12.mono hz0)
        have z0 := hB2.cell 0
        have z1 := hB2.cell 1
        have z2 := hB2.cell 2
        have z3 := hB2.cell 3
        have y0 := hB2.frozen 0
        have y1 := hB2.frozen 1
        have y2 := hB2.frozen 2
        have y3 := hB2.frozen 3
        have zl := hB2.lt
        have hfin := ent_set hB2 rfl ent0
        replace hfin := Lib.hid hfin
        simp only [entC, ent0] at z0 z1 z2 z3
        go_wp2_with fail
        exact bodyPost_ret (v := entV none) (results_row_tmp rfl _ _ w.heap.size (.agg (entC ent0)) (.bool false) rfl rfl (load_ent hfin.out rfl)) rfl ⟨by rw [hE2.out], (((hbw.setCell (Nat.le_refl _) _).setCell (Nat.le_refl _) _).setCell (Nat.le_refl _) _).setCell (Nat.le_refl _) _⟩
      · rw [hpp] at hpa hE
        by_cases hp1 : ps.length = 1
        · obtain ⟨p, rfl⟩ : ∃ p, ps = [p] := by
            rcases ps with _ | ⟨p, _ | ⟨p', l⟩⟩
            · cases hp1
            · exact ⟨p, rfl⟩
            · simp at hp1
          have hE2 : entryP k.data.toList v.data.toList = some ⟨p.s, v.data.toList.drop 1, q, v.data.toList.take 1 == [1]⟩ := hE
          have hv1 : v.extract 1 v.size = bs (v.data.toList.drop 1) := by rw [ext_bs, List.take_of_length_le (by simp [dlen])]
          have hv2 : ((v.extract 0 1).toList == [1]) = (v.data.toList.take 1 == [1]) := by rw [ByteArray.toList_eq, ext_bs, bs_data]; simp
          generalize v.data.toList.drop 1 = vt at *
          generalize (v.data.toList.take 1 == [1]) = vg at *
          replace hpa := Lib.hid hpa
          replace hE2 := Lib.hid hE2
          clear hE
          go_enter Tryd.func36, Tryd.ntmps36
          go_wp2_with fail
          refine hrd.out.mono ?_
          rintro e w1 ⟨rfl, hb1⟩
          have hB1 := (Blk.new w 33 (entC ent0)).below hb1 (by rw [World.size_alloc]; omega)
          go_wp2_with fail
          refine (hpa.out w1).mono ?_
          rintro e w2 ⟨⟨pv, rfl, hpo⟩, hb2⟩
          obtain ⟨gp, cp, rfl⟩ : ∃ gp cp, pv = .slice (some ⟨gp, 0, none⟩) 1 cp := by
            rcases hpo.2 with ⟨_, e⟩ | ⟨g, cap, cur, e, _⟩
            · cases e
            · exact ⟨g, cap, e⟩
          have hpc : w2.cell? ⟨gp, 1, none⟩ = some (.string (bs p.s)) := by
            have := hpo.cells (g := gp) rfl 1 (.string (bs p.s)) rfl
            rwa [add_off] at this
          have hgl := cell_lt hpc
          have hB2 := hB1.below hb2 hB1.lt
          have hb12 := hb1.trans (hb2.mono hb1.size)
          have hbw := hb0.trans (hb12.mono hz0)
          go_wp2_with fail
          have hxc := @Ext.cell
          have hxf := @Ext.frozen
          refine wp_hide (fun Q0 hQ0 => ?_)
          refine wp_region_line (fun w' => ∃ x : Ext _, w' = x.w) [some false, some false, some false, some false, some false, some false, some false, some false, some false, some false, some false, some false, none, none] 0 (by kernel_rfl) (by kernel_rfl) ⟨⟨_, (Below.refl _ _).drew⟩, rfl⟩ ?_
          simp only [earlyL, tailL]
          repeat (first | ((with_reducible refine wpMix_p ?_); go_big_quiet_step (fail); refine wpQuiet_nil ?_) | ((with_reducible refine wpMix_e ?_); go_big_quiet_step ((first | fail)); refine wpQuiet_nil ?_))
          refine wpMix_nil ?_
          clear hxc hxf
          intro wx hwx
          obtain ⟨x, hx⟩ := hwx
          have hb := x.below
          rw [← hx] at hb
          clear hx x
          have hBx := hB2.below hb hB2.lt
          have hbx := hbw.trans (hb.mono hbw.size)
          have z0 := hBx.cell 0
          have z1 := hBx.cell 1
          have z2 := hBx.cell 2
          have z3 := hBx.cell 3
          have y0 := hBx.frozen 0
          have y1 := hBx.frozen 1
          have y2 := hBx.frozen 2
          have y3 := hBx.frozen 3
          have zl := hBx.lt
          have hfin := ent_set hBx rfl ⟨p.s, vt, q, vg⟩
          replace hfin := Lib.hid hfin
          simp only [entC, ent0] at z0 z1 z2 z3
          clear hpc
          refine wpTail_step ?_
          intro Q1 hQ1
          go_wp2_with (fail)
          refine hQ1 _ _ rfl (fun h => absurd h (by decide)) ?_
          clear hQ1 Q1
          refine wpTail_step ?_
          intro Q1 hQ1
          go_wp2_with (fail)
          refine hQ1 _ _ rfl (fun h => absurd h (by decide)) ?_
          clear hQ1 Q1
          refine wpTail_nil ?_
          refine hQ0 _ _ ?_
          clear hQ0 Q0
          go_wp2_with fail
          exact bodyPost_ret (v := entV (some ⟨p.s, vt, q, vg⟩)) (results_row_tmp rfl _ _ w.heap.size (.agg (entC ⟨p.s, vt, q, vg⟩)) (.bool true) rfl rfl (load_ent hfin.out rfl)) rfl ⟨by rw [hE2.out], (((hbx.setCell (Nat.le_refl _) _).setCell (Nat.le_refl _) _).setCell (Nat.le_refl _) _).setCell (Nat.le_refl _) _⟩
        · have hE2 : entryP k.data.toList v.data.toList = none := by
            rw [hE]
            rcases ps with _ | ⟨p, _ | ⟨p', l⟩⟩
            · rfl
            · exact absurd rfl hp1
            · rfl
          have hp1' : ¬ ((ps.length : Nat) : Int) = 1 := by omega
          have hp1b : (((ps.length : Nat) : Int) != 1) = true := by simpa using hp1'
          replace hpa := Lib.hid hpa
          replace hE2 := Lib.hid hE2
          clear hE
          go_enter Tryd.func36, Tryd.ntmps36
          go_wp2_with fail
          refine hrd.out.mono ?_
          rintro e w1 ⟨rfl, hb1⟩
          have hB1 := (Blk.new w 33 (entC ent0)).below hb1 (by rw [World.size_alloc]; omega)
          go_wp2_with fail
          refine (hpa.out w1).mono ?_
          rintro e w2 ⟨⟨pv, rfl, hpo⟩, hb2⟩
          obtain ⟨gp, cp, rfl⟩ := hpo.form
          have hB2 := hB1.below hb2 hB1.lt
          have hb12 := hb1.trans (hb2.mono hb1.size)
          have hbw := hb0.trans (hb12.mono hz0)
          have z0 := hB2.cell 0
          have z1 := hB2.cell 1
          have z2 := hB2.cell 2
          have z3 := hB2.cell 3
          have y0 := hB2.frozen 0
          have y1 := hB2.frozen 1
          have y2 := hB2.frozen 2
          have y3 := hB2.frozen 3
          have zl := hB2.lt
          have hfin := ent_set hB2 rfl ent0
          replace hfin := Lib.hid hfin
          simp only [entC, ent0] at z0 z1 z2 z3
          go_wp2_with fail
          exact bodyPost_ret (v := entV none) (results_row_tmp rfl _ _ w.heap.size (.agg (entC ent0)) (.bool false) rfl rfl (load_ent hfin.out rfl)) rfl ⟨by rw [hE2.out], (((hbw.setCell (Nat.le_refl _) _).setCell (Nat.le_refl _) _).setCell (Nat.le_refl _) _).setCell (Nat.le_refl _) _⟩
/-- What is told of a table. -/
structure TI where
  n : Nat
  level : Int
  count : Nat
  size : Nat
  first : L
  last : L
  least : Nat
  most : Nat
structure TB where
  t : TI
  data : BB
  index : BB
  last : L
  keys : List L
  parts : List L
  at_ : Nat
  done : Bool
def TB.new (n : Nat) (level : Int) : TB := ⟨⟨n, level, 0, 0, [], [], 0, 0⟩, BB.new, BB.new, [], [], [], 0, false⟩
def TB.bad (s : TB) (e : Ent) : Bool := decide (e.key = []) || (e.gone && !decide (e.value = [])) || decide (e.seq < 1) || decide (9223372036854775808 < e.seq) || (decide (0 < s.t.count) && !lessL s.last (rowK e))
def TB.ends (s : TB) : TB := { s with data := BB.new, index := s.index.add s.last (varL [s.at_, s.data.out.length]), parts := s.parts ++ [s.data.out], at_ := s.at_ + s.data.out.length }
def TB.put (s : TB) (e : Ent) : TB :=
  { s with last := rowK e, data := s.data.add (rowK e) (rowV e), keys := if s.t.last = e.key then s.keys else s.keys ++ [e.key],
           t := { s.t with first := if s.t.count = 0 then e.key else s.t.first, count := s.t.count + 1, last := e.key, least := min (if s.t.count = 0 then e.seq else s.t.least) e.seq, most := max (if s.t.count = 0 then e.seq else s.t.most) e.seq } }
def TB.err (s : TB) (e : Ent) : Nat := if s.done then 9 else if 64 < e.key.length ∨ 512 < e.value.length then 3 else if s.bad e then 1 else 0
/-- What Add does, and the piece that it tells. -/
def TB.add (s : TB) (e : Ent) : TB × L := if s.err e = 0 then (if 256 ≤ (s.put e).data.size then ((s.put e).ends, (s.put e).data.out) else (s.put e, [])) else (s, [])
def strV (l : L) : Value := .string (bs l)
def OwnS (w : World) (B : Nat) (v : Value) (l : List L) : Prop := w.ownsRow B 9 1 v l.length (l.map strV)
def tbC (s : TB) (vb1 vs1 vb2 vs2 vk vp : Value) : Array Value :=
  #[.int .u64 (s.t.n : Nat), .int .i64 s.t.level, .int .i64 (s.t.count : Nat), .int .i64 (s.t.size : Nat), strV s.t.first, strV s.t.last, .int .u64 (s.t.least : Nat), .int .u64 (s.t.most : Nat),
    vb1, vs1, .int .i64 (s.data.count : Nat), strV s.data.last, vb2, vs2, .int .i64 (s.index.count : Nat), strV s.index.last, strV s.last, vk, vp, .int .i64 (s.at_ : Nat), .bool s.done]
structure TBAt (w : World) (B g : Nat) (s : TB) (vb1 vs1 vb2 vs2 vk vp : Value) : Prop where
  hB : B ≤ g
  blk : Blk w g 67 (tbC s vb1 vs1 vb2 vs2 vk vp)
  o1 : OwnB w B vb1 s.data.b
  p1 : OwnW w B vs1 s.data.starts
  o2 : OwnB w B vb2 s.index.b
  p2 : OwnW w B vs2 s.index.starts
  ok : OwnS w B vk s.keys
  op : OwnS w B vp s.parts
  nb : ∀ k, vb1.ownBlock = some k → vb2.ownBlock ≠ some k
  ns : ∀ k, vs1.ownBlock = some k → vs2.ownBlock ≠ some k
  np : ∀ k, vk.ownBlock = some k → vp.ownBlock ≠ some k
/-- A value lies where another one lay, or in a new block. -/
def Mv (w : World) (v v' : Value) : Prop := ∀ k, v'.ownBlock = some k → v.ownBlock = some k ∨ w.heap.size ≤ k
theorem Mv.nil (w : World) (v : Value) : Mv w v (.slice none 0 0) := fun k h => by cases h
theorem Mv.refl (w : World) (v : Value) : Mv w v v := fun k h => .inl h
theorem Moved.mv {w : World} {v v' : Value} (h : Moved w v v') : Mv w v v' := by
  intro k hk
  rcases h with e | ⟨x, e, hx⟩
  · exact .inl (by rw [← e]; exact hk)
  · rw [hk] at e
    injection e with e
    exact .inr (by omega)
/-- The blocks that a table.Builder has. -/
def TS (g : Nat) (vb1 vs1 vb2 vs2 vk vp : Value) : Nat → Prop := fun k => k = g ∨ vb1.ownBlock = some k ∨ vs1.ownBlock = some k ∨ vb2.ownBlock = some k ∨ vs2.ownBlock = some k ∨ vk.ownBlock = some k ∨ vp.ownBlock = some k
theorem OwnS.form {w : World} {B : Nat} {v : Value} {l : List L} (h : OwnS w B v l) : ∃ A cap, v = .slice A l.length cap := by
  rcases h.2 with ⟨rfl, e⟩ | ⟨g, cap, cur, rfl, _⟩
  · exact ⟨none, 0, by rw [e]⟩
  · exact ⟨_, cap, rfl⟩
theorem OwnS.of_law {w : World} {B n : Nat} {v : Value} {l : List L} {m : L} (h : w.ownsRow B 9 1 v n (l.map strV ++ [strV m])) : OwnS w B v (l ++ [m]) := by
  have hl : n = (l ++ [m]).length := by have := h.1; simp at this; simp; omega
  subst hl
  unfold OwnS
  rw [List.map_append]
  exact h
section
variable {w w' : World} {B g : Nat} {s : TB} {vb1 vs1 vb2 vs2 vk vp : Value}
theorem TBAt.data (h : TBAt w B g s vb1 vs1 vb2 vs2 vk vp) : BBAt w B g 67 8 (tbC s vb1 vs1 vb2 vs2 vk vp) s.data vb1 vs1 :=
  ⟨h.hB, h.blk, rfl, rfl, rfl, rfl, h.o1, h.p1, by decide, by decide⟩
theorem TBAt.index (h : TBAt w B g s vb1 vs1 vb2 vs2 vk vp) : BBAt w B g 67 12 (tbC s vb1 vs1 vb2 vs2 vk vp) s.index vb2 vs2 :=
  ⟨h.hB, h.blk, rfl, rfl, rfl, rfl, h.o2, h.p2, by decide, by decide⟩
theorem TBAt.below (h : TBAt w B g s vb1 vs1 vb2 vs2 vk vp) (hb : Below w.heap.size w w') : TBAt w' B g s vb1 vs1 vb2 vs2 vk vp := by
  have k : ∀ {e m n v xs}, w.ownsRow B e m v n xs → w'.ownsRow B e m v n xs := fun h => own_block h (fun k hk => hb.block k (own_lt h k hk).2)
  exact ⟨h.hB, h.blk.below hb h.blk.lt, k h.o1, k h.p1, k h.o2, k h.p2, k h.ok, k h.op, h.nb, h.ns, h.np⟩
theorem TBAt.kept {S : Nat → Prop} (h : TBAt w B g s vb1 vs1 vb2 vs2 vk vp) (hk : KeptBut w w' S) (hs : ∀ k, TS g vb1 vs1 vb2 vs2 vk vp k → ¬ S k) : TBAt w' B g s vb1 vs1 vb2 vs2 vk vp :=
  ⟨h.hB, h.blk.keptB hk (hs g (.inl rfl)), own_kept h.o1 hk (fun k e => hs k (.inr (.inl e))), own_kept h.p1 hk (fun k e => hs k (.inr (.inr (.inl e)))), own_kept h.o2 hk (fun k e => hs k (.inr (.inr (.inr (.inl e))))),
    own_kept h.p2 hk (fun k e => hs k (.inr (.inr (.inr (.inr (.inl e)))))), own_kept h.ok hk (fun k e => hs k (.inr (.inr (.inr (.inr (.inr (.inl e))))))), own_kept h.op hk (fun k e => hs k (.inr (.inr (.inr (.inr (.inr (.inr e)))))) ), h.nb, h.ns, h.np⟩
theorem setBB8 (d : BB) (x y : Value) : setBB (tbC s vb1 vs1 vb2 vs2 vk vp) 8 x y d = tbC { s with data := d } x y vb2 vs2 vk vp := rfl
theorem setBB12 (d : BB) (x y : Value) : setBB (tbC s vb1 vs1 vb2 vs2 vk vp) 12 x y d = tbC { s with index := d } vb1 vs1 x y vk vp := rfl
/-- The data's builder has turned. -/
theorem TBAt.of_data {d : BB} {x y : Value} (h : TBAt w B g s vb1 vs1 vb2 vs2 vk vp) (hd : BBAt w' B g 67 8 (setBB (tbC s vb1 vs1 vb2 vs2 vk vp) 8 x y d) d x y) (hk : KeptBut w w' (BS g vb1 vs1)) (hx : Mv w vb1 x) (hy : Mv w vs1 y) :
    TBAt w' B g { s with data := d } x y vb2 vs2 vk vp := by
  have k : ∀ {e v n xs}, w.ownsRow B e 1 v n xs → (∀ k, v.ownBlock = some k → ¬ BS g vb1 vs1 k) → w'.ownsRow B e 1 v n xs := fun h hs => own_kept h hk hs
  have mv : ∀ {v v' u : Value}, Mv w v v' → (∀ k, u.ownBlock = some k → k < w.heap.size) → (∀ k, v.ownBlock = some k → u.ownBlock ≠ some k) → ∀ k, v'.ownBlock = some k → u.ownBlock ≠ some k := by
    intro v v' u hm hu hv k hk e
    rcases hm k hk with e1 | hz
    · exact hv k e1 e
    · have := hu k e
      omega
  refine ⟨h.hB, by have := hd.blk; rwa [setBB8] at this, hd.ob, hd.os, k h.o2 ?_, k h.p2 ?_, k h.ok ?_, k h.op ?_, mv hx (fun k e => (own_lt h.o2 k e).2) h.nb, mv hy (fun k e => (own_lt h.p2 k e).2) h.ns, h.np⟩
  · intro k hk e
    rcases e with e | e | e
    · exact own_blk_ne h.o2 h.blk (by decide) (by rw [hk, e])
    · exact h.nb k e hk
    · exact own_types h.o2 h.p1 (by decide) k hk e
  · intro k hk e
    rcases e with e | e | e
    · exact own_blk_ne h.p2 h.blk (by decide) (by rw [hk, e])
    · exact own_types h.p2 h.o1 (by decide) k hk e
    · exact h.ns k e hk
  · intro k hk e
    rcases e with e | e | e
    · exact own_blk_ne h.ok h.blk (by decide) (by rw [hk, e])
    · exact own_types h.ok h.o1 (by decide) k hk e
    · exact own_types h.ok h.p1 (by decide) k hk e
  · intro k hk e
    rcases e with e | e | e
    · exact own_blk_ne h.op h.blk (by decide) (by rw [hk, e])
    · exact own_types h.op h.o1 (by decide) k hk e
    · exact own_types h.op h.p1 (by decide) k hk e
theorem TBAt.of_index {d : BB} {x y : Value} (h : TBAt w B g s vb1 vs1 vb2 vs2 vk vp) (hd : BBAt w' B g 67 12 (setBB (tbC s vb1 vs1 vb2 vs2 vk vp) 12 x y d) d x y) (hk : KeptBut w w' (BS g vb2 vs2)) (hx : Mv w vb2 x) (hy : Mv w vs2 y) :
    TBAt w' B g { s with index := d } vb1 vs1 x y vk vp := by
  have k : ∀ {e v n xs}, w.ownsRow B e 1 v n xs → (∀ k, v.ownBlock = some k → ¬ BS g vb2 vs2 k) → w'.ownsRow B e 1 v n xs := fun h hs => own_kept h hk hs
  have mv : ∀ {v v' u : Value}, Mv w v v' → (∀ k, u.ownBlock = some k → k < w.heap.size) → (∀ k, u.ownBlock = some k → v.ownBlock ≠ some k) → ∀ k, u.ownBlock = some k → v'.ownBlock ≠ some k := by
    intro v v' u hm hu hv k hk e
    rcases hm k e with e1 | hz
    · exact hv k hk e1
    · have := hu k hk
      omega
  refine ⟨h.hB, by have := hd.blk; rwa [setBB12] at this, k h.o1 ?_, k h.p1 ?_, hd.ob, hd.os, k h.ok ?_, k h.op ?_, mv hx (fun k e => (own_lt h.o1 k e).2) h.nb, mv hy (fun k e => (own_lt h.p1 k e).2) h.ns, h.np⟩
  · intro k hk e
    rcases e with e | e | e
    · exact own_blk_ne h.o1 h.blk (by decide) (by rw [hk, e])
    · exact h.nb k hk e
    · exact own_types h.o1 h.p2 (by decide) k hk e
  · intro k hk e
    rcases e with e | e | e
    · exact own_blk_ne h.p1 h.blk (by decide) (by rw [hk, e])
    · exact own_types h.p1 h.o2 (by decide) k hk e
    · exact h.ns k hk e
  · intro k hk e
    rcases e with e | e | e
    · exact own_blk_ne h.ok h.blk (by decide) (by rw [hk, e])
    · exact own_types h.ok h.o2 (by decide) k hk e
    · exact own_types h.ok h.p2 (by decide) k hk e
  · intro k hk e
    rcases e with e | e | e
    · exact own_blk_ne h.op h.blk (by decide) (by rw [hk, e])
    · exact own_types h.op h.o2 (by decide) k hk e
    · exact own_types h.op h.p2 (by decide) k hk e
end
def hashStep (h : Nat) (c : UInt8) : Nat := (h ^^^ c.toNat) * 1099511628211 % 18446744073709551616
def hashL (l : List UInt8) : Nat := l.foldl hashStep 14695981039346656037
theorem hashStep_lt (h : Nat) (c : UInt8) : hashStep h c < 18446744073709551616 := Nat.mod_lt _ (by decide)
theorem hashF_lt (l : List UInt8) : ∀ {h : Nat}, h < 18446744073709551616 → l.foldl hashStep h < 18446744073709551616 := by
  induction l with
  | nil => exact fun h => h
  | cons c l ih => exact fun _ => ih (hashStep_lt _ c)
theorem hashL_lt (l : List UInt8) : hashL l < 18446744073709551616 := hashF_lt l (by decide)
set_option maxRecDepth 100000 in
set_option maxHeartbeats 4000000 in
theorem Hash_any (s : ByteArray) (w : World) (hsz : s.size ≤ 1099511627776) :
    Calls Tryd.prog 77 #[.string s] w fun e w' => e = .returned (.int .u64 (hashL s.data.toList : Nat)) ∧ Below w.heap.size w w' := by
  obtain ⟨c2, W2, hrun, hbW, hzW, hcells⟩ := conv_bytes w s
  replace hbW := Lib.hid hbW
  replace hcells := Lib.hid hcells
  have hfin : hashL s.data.toList = (s.data.toList.take s.size).foldl hashStep 14695981039346656037 := by
    rw [List.take_of_length_le (by rw [dlen]; exact Nat.le_refl _)]
    rfl
  replace hfin := Lib.hid hfin
  go_enter Tryd.func77, Tryd.ntmps77
  go_wp2_with fail
  go_loopw [3, 9] (fun sv jv wq => ∃ j : Nat, j ≤ s.size ∧ jv = .int .i64 j ∧ sv = .int .u64 ((s.data.toList.take j).foldl hashStep 14695981039346656037 : Nat) ∧ W2 = wq) (fun _ jv _ => s.size - (intOf jv).toNat)
  case atStart => exact ⟨0, Nat.zero_le _, rfl, rfl, rfl⟩
  case round =>
    obtain ⟨j, hj, rfl, rfl, rfl⟩ := hrel
    by_cases hjl : j < s.size
    · have hjl' : (j : Int) < s.size := by omega
      have hx := hcells.out j hjl
      have hjd : j < s.data.toList.length := by rw [dlen]; exact hjl
      rw [List.getD_eq_getElem?_getD, List.getElem?_eq_getElem hjd] at hx
      have hsn : (s.data.toList.take (j + 1)).foldl hashStep 14695981039346656037 = hashStep ((s.data.toList.take j).foldl hashStep 14695981039346656037) s.data.toList[j] := by
        rw [List.take_succ_eq_append_getElem hjd, List.foldl_append, List.foldl_cons, List.foldl_nil]
      have hlt2 : (s.data.toList.take j).foldl hashStep 14695981039346656037 < 18446744073709551616 := hashF_lt (s.data.toList.take j) (by decide)
      replace hsn := Lib.hid hsn
      generalize (s.data.toList.take j).foldl hashStep 14695981039346656037 = x0 at *
      generalize s.data.toList[j] = c at *
      unfold B8 at hx
      simp only [Option.getD_some] at hx
      have k1 : bits .xor .u64 (x0 : Int) (c.toNat : Nat) = ((x0 ^^^ c.toNat : Nat) : Int) := u64_xor_nat _ _ hlt2 (by have := c.toNat_lt; omega)
      have hcl := c.toNat_lt
      have kw : IntKind.u64.wrap (((x0 ^^^ c.toNat : Nat) : Int) * 1099511628211) = ((hashStep x0 c : Nat) : Int) := by
        rw [IntKind.wrap_u64]
        unfold hashStep
        omega
      replace hlt2 := Lib.hid hlt2
      replace kw := Lib.hid kw
      go_wp2_with fail
      refine ⟨⟨j + 1, by omega, by go_num, congrArg (Value.int .u64) ?_, trivial⟩, by first | omega | (simp only [intOf]; omega)⟩
      rw [kw.out, hsn.out]
    · obtain rfl : j = s.size := by omega
      have hjl' : ¬ (s.size : Int) < s.size := by omega
      rw [← hfin.out]
      go_wp2_with fail
      go_ret
      exact ⟨rfl, hbW.out⟩
end Go.Proofs.YtfnlponoakhegaaDoor
namespace Go.Proofs.YtfnlponoakhegaaDoor
set_option linter.unusedVariables false
set_option linter.unusedSimpArgs false
def stepOf (h : Nat) : Nat := h / 4294967296 ||| 1
def probeL (h m i : Nat) : Nat := ((h % 4294967296 + i * stepOf h) % 4294967296) % m
def probesL (key : List UInt8) (m : Nat) : List Nat := (List.range 6).map (probeL (hashL key) m)
def bitAt (b : List UInt8) (n : Nat) : Bool := (b.getD (n / 8) 0).toNat / 2 ^ (n % 8) % 2 == 1
def setBit (b : List UInt8) (n : Nat) : List UInt8 := b.set (n / 8) (UInt8.ofNat ((b.getD (n / 8) 0).toNat ||| 2 ^ (n % 8)))
def filterN (k : Nat) : Nat := (max (10 * k) 64 + 7) / 8
def addKey (b : List UInt8) (key : List UInt8) : List UInt8 := (probesL key (8 * b.length)).foldl setBit b
def filterL (keys : List (List UInt8)) : List UInt8 := keys.foldl addKey (List.replicate (filterN keys.length) 0)
def mayL (f key : List UInt8) : Bool := f != [] && (probesL key (8 * f.length)).all (bitAt f)
theorem setBit_len (b : List UInt8) (n : Nat) : (setBit b n).length = b.length := by simp [setBit]
theorem testBit_div (x k : Nat) : (x / 2 ^ k % 2 == 1) = x.testBit k := by
  rw [Nat.testBit_eq_decide_div_mod_eq]
  by_cases h : x / 2 ^ k % 2 = 1 <;> simp [h]
theorem setBit_bit (b : List UInt8) (n m : Nat) (h : n / 8 < b.length) : bitAt (setBit b n) m = (bitAt b m || decide (n = m)) := by
  unfold bitAt setBit
  rw [testBit_div, testBit_div]
  by_cases hd : m / 8 = n / 8
  · rw [List.getD_eq_getElem?_getD, hd, List.getElem?_set_self h, Option.getD_some]
    have hx := (b.getD (n / 8) 0).toNat_lt
    generalize (b.getD (n / 8) 0).toNat = x at *
    have hp : 2 ^ (n % 8) < 2 ^ 8 := Nat.pow_lt_pow_right (by omega) (by omega)
    have hor : x ||| 2 ^ (n % 8) < 2 ^ 8 := Nat.or_lt_two_pow hx hp
    rw [UInt8.toNat_ofNat', Nat.mod_eq_of_lt hor, Nat.testBit_or, Nat.testBit_two_pow]
    congr 1
    by_cases he : n = m
    · subst he; simp
    · have : ¬ n % 8 = m % 8 := by omega
      simp [he, this]
  · rw [List.getD_eq_getElem?_getD, List.getElem?_set_ne (fun e => hd e.symm), ← List.getD_eq_getElem?_getD]
    have : n ≠ m := fun e => hd (by rw [e])
    simp [this]
theorem foldl_set_len (l : List Nat) : ∀ b : List UInt8, (l.foldl setBit b).length = b.length := by
  induction l with
  | nil => exact fun _ => rfl
  | cons n l ih => exact fun b => (ih _).trans (setBit_len b n)
theorem foldl_set_bit (l : List Nat) : ∀ (b : List UInt8) (m : Nat), (∀ n ∈ l, n / 8 < b.length) → bitAt (l.foldl setBit b) m = (bitAt b m || decide (m ∈ l)) := by
  induction l with
  | nil => intro b m _; simp
  | cons n l ih =>
    intro b m h
    rw [List.foldl_cons, ih _ m (fun k hk => by rw [setBit_len]; exact h k (by simp [hk])), setBit_bit b n m (h n (by simp)), Bool.or_assoc]
    congr 1
    by_cases he : n = m
    · subst he; simp
    · by_cases hm : m ∈ l <;> simp [he, hm, Ne.symm he]
theorem addKey_len (b key : List UInt8) : (addKey b key).length = b.length := foldl_set_len _ _
theorem probesL_lt {key : List UInt8} {m : Nat} (hm : 0 < m) : ∀ n ∈ probesL key m, n < m := by
  intro n hn
  unfold probesL at hn
  rw [List.mem_map] at hn
  obtain ⟨i, _, rfl⟩ := hn
  exact Nat.mod_lt _ hm
theorem addKey_bit {b key : List UInt8} (hb : 0 < b.length) (m : Nat) : bitAt (addKey b key) m = (bitAt b m || decide (m ∈ probesL key (8 * b.length))) :=
  foldl_set_bit _ b m (fun n hn => by have := probesL_lt (m := 8 * b.length) (by omega) n hn; omega)
theorem foldl_addKey_len (ks : List (List UInt8)) : ∀ b, (ks.foldl addKey b).length = b.length := by
  induction ks with
  | nil => exact fun _ => rfl
  | cons k ks ih => exact fun b => (ih _).trans (addKey_len b k)
theorem foldl_addKey_mono (ks : List (List UInt8)) : ∀ (b : List UInt8) (m : Nat), 0 < b.length → bitAt b m = true → bitAt (ks.foldl addKey b) m = true := by
  induction ks with
  | nil => exact fun _ _ _ h => h
  | cons k ks ih =>
    intro b m hb h
    exact ih _ m (by rw [addKey_len]; exact hb) (by rw [addKey_bit hb, h]; rfl)
theorem foldl_addKey_has (ks : List (List UInt8)) : ∀ (b : List UInt8) (key : List UInt8), 0 < b.length → key ∈ ks → ∀ m ∈ probesL key (8 * b.length), bitAt (ks.foldl addKey b) m = true := by
  induction ks with
  | nil => intro b key _ h; cases h
  | cons k ks ih =>
    intro b key hb h m hm
    rcases List.mem_cons.1 h with rfl | h
    · exact foldl_addKey_mono ks _ m (by rw [addKey_len]; exact hb) (by rw [addKey_bit hb]; simp [hm])
    · exact ih _ key (by rw [addKey_len]; exact hb) h m (by rw [addKey_len]; exact hm)
theorem filterL_len (keys : List (List UInt8)) : (filterL keys).length = filterN keys.length := by
  unfold filterL
  rw [foldl_addKey_len, List.length_replicate]
theorem filterN_pos (k : Nat) : 8 ≤ filterN k := by unfold filterN; omega
theorem may_filter {keys : List (List UInt8)} {key : List UInt8} (h : key ∈ keys) : mayL (filterL keys) key = true := by
  have hl := filterL_len keys
  have hp := filterN_pos keys.length
  unfold mayL
  rw [Bool.and_eq_true]
  refine ⟨?_, List.all_eq_true.2 fun m hm => ?_⟩
  · rw [bne_iff_ne]
    intro e
    rw [e] at hl
    simp at hl
    omega
  · rw [hl] at hm
    unfold filterL
    refine foldl_addKey_has keys _ key (by rw [List.length_replicate]; omega) h m ?_
    rw [List.length_replicate]
    exact hm
def TB.fin (s : TB) : TB := if 0 < s.data.count then s.ends else s
def TB.rest (s : TB) : L := if 0 < s.data.count then s.data.out else []
def TB.tail0 (s : TB) : L := filterL s.keys ++ s.index.outX ++ bigX s.at_ ++ bigX (s.at_ + (filterL s.keys).length) ++ bigX s.t.count
def TB.tail (s : TB) : L := s.tail0 ++ bigL (crcL (s.parts ++ [s.tail0]).flatten) 4
/-- The data blocks that an index names. -/
def blocksT (s : L) (n : Nat) : List (L × L) → Option (List (List (L × L)))
  | [] => some []
  | (_, v) :: r => match readVar v with
    | none => none
    | some (p, z) => match readVar (v.drop z) with
      | none => none
      | some (q, _) => if n < p ∨ n - p < q then none else
        match openB ((s.drop p).take q) with
        | none => none
        | some b => (blocksT s n r).map (b :: ·)
/-- A table's parts: its filter, its index, its data blocks. -/
def readT (s : L) : Option (L × List (L × L) × List (List (L × L))) :=
  if s.length < 16 then none else
    if beV ((s.drop (s.length - 12)).take 4) < beV ((s.drop (s.length - 16)).take 4) ∨ s.length - 16 < beV ((s.drop (s.length - 12)).take 4) then none else
      match openB ((s.drop (beV ((s.drop (s.length - 12)).take 4))).take (s.length - 16 - beV ((s.drop (s.length - 12)).take 4))) with
      | none => none
      | some ix => match blocksT s (beV ((s.drop (s.length - 16)).take 4)) ix with
        | none => none
        | some bls => some ((s.drop (beV ((s.drop (s.length - 16)).take 4))).take (beV ((s.drop (s.length - 12)).take 4) - beV ((s.drop (s.length - 16)).take 4)), ix, bls)
/-- The entries of blocks, built again: the builder, and the pieces so far. -/
def againT : List (L × L) → TB × L → Option (TB × L)
  | [], a => some a
  | (k, v) :: r, a => match entryP k v with
    | none => none
    | some e => againT r ((a.1.add e).1, a.2 ++ (a.1.add e).2)
/-- What Finish tells of bytes. -/
def TB.outL (s : TB) : L := if s.done = true ∨ s.t.count = 0 then [] else s.rest ++ s.fin.tail
def openT (s : L) : Option (L × List (L × L) × List (List (L × L))) := match readT s with
  | none => none
  | some t => match againT t.2.2.flatten (TB.new 0 0, []) with
    | none => none
    | some (tb, out) => if out ++ tb.outL = s then some t else none
def runT (es : List Ent) : TB × L := es.foldl (fun a e => ((a.1.add e).1, a.2 ++ (a.1.add e).2)) (TB.new 0 0, [])
theorem againT_run : ∀ (l : List (L × L)) (a : TB × L) (b : TB × L), againT l a = some b → ∃ es : List Ent, b = es.foldl (fun a e => ((a.1.add e).1, a.2 ++ (a.1.add e).2)) a ∧ l.map (fun x => entryP x.1 x.2) = es.map some
  | [], a, b, h => by
    injection h with h
    exact ⟨[], h.symm, rfl⟩
  | (k, v) :: r, a, b, h => by
    unfold againT at h
    split at h
    · cases h
    · rename_i e he
      obtain ⟨es, h1, h2⟩ := againT_run r _ _ h
      exact ⟨e :: es, h1, by simp [he, h2]⟩
/-- What opens are the bytes of a builder's run. -/
theorem openT_some {s : L} {t : L × List (L × L) × List (List (L × L))} (h : openT s = some t) : ∃ es, s = (runT es).2 ++ (runT es).1.outL ∧ t.2.2.flatten.map (fun x => entryP x.1 x.2) = es.map some ∧ readT s = some t := by
  unfold openT at h
  split at h
  · cases h
  · rename_i t' ht
    split at h
    · cases h
    · rename_i tb out ha
      split at h
      · rename_i hs
        injection h with h
        subst h
        obtain ⟨es, h1, h2⟩ := againT_run _ _ _ ha
        exact ⟨es, by unfold runT; rw [← h1]; exact hs.symm, h2, ht⟩
      · cases h
theorem less_cons (a : UInt8) (x y : L) : lessL (a :: x) (a :: y) = lessL x y := by unfold lessL; simp [Op.bytesLess]
theorem less_app (p x y : L) : lessL (p ++ x) (p ++ y) = lessL x y := by
  induction p with
  | nil => rfl
  | cons a p ih => rw [List.cons_append, List.cons_append, less_cons, ih]
theorem less_head {a b : UInt8} (h : a < b) (x y : L) : lessL (a :: x) (b :: y) = true := by unfold lessL; simp [Op.bytesLess, h]
theorem u8_pos {a : UInt8} (h : a ≠ 0) : 0 < a := by
  rw [UInt8.lt_iff_toNat_lt]
  have : a.toNat ≠ 0 := fun e => h (UInt8.toNat_inj.1 e)
  show 0 < a.toNat
  omega
/-- Texts that differ: their keys stand az they do, whatever comes behind. -/
theorem esc_less : ∀ (k k' x y : L), lessL k k' = true → lessL (escL k ++ 0 :: 1 :: x) (escL k' ++ 0 :: 1 :: y) = true
  | k, [], x, y, h => by cases k <;> simp [lessL, Op.bytesLess] at h
  | [], b :: k', x, y, h => by
    by_cases hb : b = 0
    · subst hb
      rw [escL, escL, if_pos rfl]
      show lessL (0 :: 1 :: x) (0 :: 255 :: _) = true
      rw [less_cons]
      exact less_head (by decide) _ _
    · rw [escL, escL, if_neg hb]
      exact less_head (u8_pos hb) _ _
  | a :: k, b :: k', x, y, h => by
    by_cases hab : a = b
    · subst hab
      rw [less_cons] at h
      have ih := esc_less k k' x y h
      by_cases ha : a = 0
      · subst ha
        rw [escL, escL, if_pos rfl]
        show lessL (0 :: 255 :: (escL k ++ _)) (0 :: 255 :: (escL k' ++ _)) = true
        rw [less_cons, less_cons]
        exact ih
      · rw [escL, escL, if_neg ha, if_neg ha]
        show lessL (a :: (escL k ++ _)) (a :: (escL k' ++ _)) = true
        rw [less_cons]
        exact ih
    · have hlt : a < b := by
        unfold lessL at h
        simp only [Op.bytesLess, Bool.or_eq_true, Bool.and_eq_true, decide_eq_true_eq, beq_iff_eq] at h
        exact h.resolve_right fun q => hab q.1
      have hb : b ≠ 0 := by
        intro e
        subst e
        rw [UInt8.lt_iff_toNat_lt] at hlt
        exact absurd hlt (Nat.not_lt_zero _)
      rw [escL, escL, if_neg hb]
      by_cases ha : a = 0
      · rw [if_pos ha]
        exact less_head (u8_pos hb) _ _
      · rw [if_neg ha]
        exact less_head hlt _ _
theorem bigL_mod : ∀ (w k : Nat), bigL k w = bigL (k % 256 ^ w) w := by
  intro w
  suffices h : ∀ (v w k : Nat), w ≤ v → bigL (k % 256 ^ v) w = bigL k w from fun k => (h w w k (Nat.le_refl _)).symm
  intro v w
  induction w with
  | zero => intro k _; rfl
  | succ w ih =>
    intro k hv
    show UInt8.ofNat (k % 256 ^ v / 256 ^ w) :: bigL (k % 256 ^ v) w = UInt8.ofNat (k / 256 ^ w) :: bigL k w
    rw [ih k (by omega)]
    congr 1
    apply UInt8.toNat_inj.1
    rw [UInt8.toNat_ofNat', UInt8.toNat_ofNat']
    obtain ⟨d, rfl⟩ : ∃ d, v = w + 1 + d := ⟨v - (w + 1), by omega⟩
    have e : 256 ^ (w + 1 + d) = 256 ^ w * (256 * 256 ^ d) := by rw [Nat.pow_add, Nat.pow_succ, Nat.mul_assoc]
    have e2 : (2 : Nat) ^ 8 = 256 := by decide
    rw [e, Nat.mod_mul_right_div_self, e2, Nat.mod_mod_of_dvd _ (Nat.dvd_mul_right _ _)]
/-- Numbers of one width stand az their bytes do. -/
theorem big_less : ∀ (w n m : Nat), n < 256 ^ w → m < 256 ^ w → n < m → lessL (bigL n w) (bigL m w) = true
  | 0, n, m, hn, hm, h => by simp at hn hm; omega
  | w + 1, n, m, hn, hm, h => by
    have hp : 0 < 256 ^ w := Nat.pow_pos (by omega)
    have hn1 : n / 256 ^ w < 256 := by rw [Nat.div_lt_iff_lt_mul hp]; rw [Nat.pow_succ] at hn; omega
    have hm1 : m / 256 ^ w < 256 := by rw [Nat.div_lt_iff_lt_mul hp]; rw [Nat.pow_succ] at hm; omega
    have hle : n / 256 ^ w ≤ m / 256 ^ w := Nat.div_le_div_right (by omega)
    have hmod : ∀ k, bigL k w = bigL (k % 256 ^ w) w := fun k => bigL_mod w k
    show lessL (UInt8.ofNat (n / 256 ^ w) :: bigL n w) (UInt8.ofNat (m / 256 ^ w) :: bigL m w) = true
    rcases Nat.lt_or_ge (n / 256 ^ w) (m / 256 ^ w) with hlt | hge
    · refine less_head ?_ _ _
      rw [UInt8.lt_iff_toNat_lt, UInt8.toNat_ofNat', UInt8.toNat_ofNat']
      generalize n / 256 ^ w = a at hn1 hlt
      generalize m / 256 ^ w = b at hm1 hlt
      have e2 : (2 : Nat) ^ 8 = 256 := by decide
      rw [e2, Nat.mod_eq_of_lt hn1, Nat.mod_eq_of_lt hm1]
      exact hlt
    · have he : n / 256 ^ w = m / 256 ^ w := by omega
      rw [he, less_cons, hmod n, hmod m]
      refine big_less w _ _ (Nat.mod_lt _ hp) (Nat.mod_lt _ hp) ?_
      have h1 := Nat.div_add_mod n (256 ^ w)
      have h2 := Nat.div_add_mod m (256 ^ w)
      rw [he] at h1
      omega
theorem internalL_eq (k : L) (q : Nat) : internalL k q = 2 :: (escL k ++ 0 :: 1 :: bigL (18446744073709551615 - q) 8) := by
  unfold internalL strKey
  simp
theorem internal_lt_key {k k' : L} (q q' : Nat) (h : lessL k k' = true) : lessL (internalL k q) (internalL k' q') = true := by
  rw [internalL_eq, internalL_eq, less_cons]
  exact esc_less k k' _ _ h
theorem internal_lt_seq (k : L) {q q' : Nat} (hq : q ≤ 18446744073709551615) (h : q' < q) : lessL (internalL k q) (internalL k q') = true := by
  rw [internalL_eq, internalL_eq, less_cons, less_app, less_cons, less_cons]
  have e : (256 : Nat) ^ 8 = 18446744073709551616 := by decide
  exact big_less 8 _ _ (by omega) (by omega) (by omega)
theorem less_total (a b : L) : lessL a b = true ∨ a = b ∨ lessL b a = true := by
  have := less_tri a b
  rcases h : lessL b a with _ | _
  · rw [h] at this
    simp at this
    rcases this with h1 | h1
    · exact .inl h1
    · exact .inr (.inl h1)
  · exact .inr (.inr rfl)
/-- The order of internal keys. -/
theorem internal_less {k k' : L} {q q' : Nat} (hq : q ≤ 18446744073709551615) (hq' : q' ≤ 18446744073709551615) : lessL (internalL k q) (internalL k' q') = true ↔ lessL k k' = true ∨ k = k' ∧ q' < q := by
  constructor
  · intro h
    rcases less_total k k' with h1 | h1 | h1
    · exact .inl h1
    · subst h1
      rcases Nat.lt_trichotomy q' q with h2 | h2 | h2
      · exact .inr ⟨rfl, h2⟩
      · subst h2
        rw [less_irrefl] at h
        cases h
      · have := internal_lt_seq k hq' h2
        rw [less_asymm h] at this
        cases this
    · have := internal_lt_key q' q h1
      rw [less_asymm h] at this
      cases this
  · rintro (h | ⟨rfl, h⟩)
    · exact internal_lt_key _ _ h
    · exact internal_lt_seq _ hq h
def rowE (e : Ent) : L × L := (rowK e, rowV e)
def lastK (b : List (L × L)) : L := (b.getLast?.map (·.1)).getD []
def outB (b : List (L × L)) : L := (foldB b).out
def outs (bls : List (List (L × L))) : L := (bls.map outB).flatten
/-- The index of blocks that lie from a place on. -/
def ixOf : Nat → List (List (L × L)) → List (L × L)
  | _, [] => []
  | a, b :: r => (lastK b, varL [a, (outB b).length]) :: ixOf (a + (outB b).length) r
theorem outs_snoc (bls : List (List (L × L))) (b : List (L × L)) : outs (bls ++ [b]) = outs bls ++ outB b := by simp [outs]
theorem outs_cons (bls : List (List (L × L))) (b : List (L × L)) : outs (b :: bls) = outB b ++ outs bls := by simp [outs]
theorem ixOf_snoc : ∀ (bls : List (List (L × L))) (a : Nat) (b : List (L × L)), ixOf a (bls ++ [b]) = ixOf a bls ++ [(lastK b, varL [a + (outs bls).length, (outB b).length])]
  | [], a, b => by simp [ixOf, outs]
  | c :: r, a, b => by
    simp only [List.cons_append, ixOf]
    rw [ixOf_snoc r, outs_cons, List.length_append, Nat.add_assoc]
theorem ixOf_len : ∀ (bls : List (List (L × L))) (a : Nat), (ixOf a bls).length = bls.length
  | [], _ => rfl
  | c :: r, a => by simp only [ixOf, List.length_cons]; rw [ixOf_len r]
theorem lastK_snoc (b : List (L × L)) (x : L × L) : lastK (b ++ [x]) = x.1 := by simp [lastK]
theorem lastK_app (a : List (L × L)) {b : List (L × L)} (h : b ≠ []) : lastK (a ++ b) = lastK b := by
  obtain ⟨c, x, rfl⟩ : ∃ c x, b = c ++ [x] := ⟨b.dropLast, b.getLast h, (List.dropLast_concat_getLast h).symm⟩
  rw [← List.append_assoc, lastK_snoc, lastK_snoc]
theorem lastK_mem {b : List (L × L)} (h : b ≠ []) : ∃ x ∈ b, x.1 = lastK b := by
  obtain ⟨c, x, rfl⟩ : ∃ c x, b = c ++ [x] := ⟨b.dropLast, b.getLast h, (List.dropLast_concat_getLast h).symm⟩
  exact ⟨x, by simp, (lastK_snoc c x).symm⟩
theorem foldB_lastK (es : List (L × L)) : (foldB es).last = lastK es := by
  induction es using snocRec with
  | nil => rfl
  | snoc es e ih => rw [foldB_snoc, lastK_snoc]; rfl
theorem foldB_starts_le (es : List (L × L)) : ∀ n ∈ (foldB es).starts, n ≤ (foldB es).b.length := by
  induction es using snocRec with
  | nil => intro n h; simp [foldB, BB.new] at h
  | snoc es e ih =>
    rw [foldB_snoc]
    intro n h
    unfold BB.put at h ⊢
    simp only [List.length_append] at h ⊢
    split at h
    · rcases List.mem_append.1 h with h | h
      · have := ih n h; omega
      · simp at h; omega
    · have := ih n h; omega
theorem varL_two (a b : Nat) : (varL [a, b]).length ≤ 18 := by
  have := varL_len [a, b]
  simpa using this
theorem rowK_len {e : Ent} (h : e.key.length ≤ 64) : (rowK e).length ≤ 139 := by
  have := internalL_len e.key e.seq
  unfold rowK
  omega
theorem rowV_le2 {e : Ent} (h : e.value.length ≤ 512) : (rowV e).length ≤ 513 := by
  unfold rowV
  simp
  omega
def headD (l : List Ent) : Nat := (l.head?.map (·.seq)).getD 0
structure RunI (n : Nat) (lv : Int) (own : List Ent) (s : TB) (out : L) (bls : List (List (L × L))) (cur : List (L × L)) : Prop where
  rows : bls.flatten ++ cur = own.map rowE
  out_ : out = outs bls
  parts : s.parts = bls.map outB
  at_ : s.at_ = out.length
  data : s.data = foldB cur
  vcur : ValidB cur
  csz : (foldB cur).size ≤ 1000
  vbls : ∀ b ∈ bls, ValidB b ∧ b ≠ [] ∧ (outB b).length ≤ 1000
  index : s.index = foldB (ixOf 0 bls)
  vix : ValidB (ixOf 0 bls)
  ib : (foldB (ixOf 0 bls)).b.length ≤ 184 * bls.length
  last : s.last = lastK (own.map rowE)
  done : s.done = false
  sorted : (own.map rowE).Pairwise fun a b => lessL a.1 b.1 = true
  small : ∀ e ∈ own, e.key.length ≤ 64 ∧ e.value.length ≤ 512 ∧ 1 ≤ e.seq ∧ e.seq ≤ 9223372036854775808
  keys : ∀ e ∈ own, e.key ∈ s.keys
  kl : s.keys.length ≤ own.length
  ks : ∀ k ∈ s.keys, k.length ≤ 64
  tn : s.t.n = n
  tl : s.t.level = lv
  tz : s.t.size = 0
  count : s.t.count = own.length
  first : s.t.first = (own.head?.map (·.key)).getD []
  tlast : s.t.last = (own.getLast?.map (·.key)).getD []
  least : s.t.least = own.foldl (fun a e => min a e.seq) (headD own)
  most : s.t.most = own.foldl (fun a e => max a e.seq) (headD own)
theorem RunI.new (n : Nat) (lv : Int) : RunI n lv [] (TB.new n lv) [] [] [] :=
  ⟨rfl, rfl, rfl, rfl, rfl, ValidB.nil, by decide, fun b h => (nomatch h), rfl, ValidB.nil, by decide, rfl, rfl, .nil, fun e h => (nomatch h), fun e h => (nomatch h), Nat.le_refl 0, fun e h => (nomatch h), rfl, rfl, rfl, rfl, rfl, rfl, rfl, rfl⟩
theorem err_zero {s : TB} {e : Ent} (h : s.err e = 0) : s.done = false ∧ e.key.length ≤ 64 ∧ e.value.length ≤ 512 ∧ e.key ≠ [] ∧ 1 ≤ e.seq ∧ e.seq ≤ 9223372036854775808 ∧ (0 < s.t.count → lessL s.last (rowK e) = true) ∧ (e.gone = true → e.value = []) := by
  unfold TB.err at h
  split at h
  · cases h
  · rename_i hd
    split at h
    · cases h
    · rename_i hl
      split at h
      · cases h
      · rename_i hb
        unfold TB.bad at hb
        simp only [Bool.or_eq_true, Bool.and_eq_true, decide_eq_true_eq, Bool.not_eq_true', not_or, not_and, decide_eq_false_iff_not] at hb
        obtain ⟨⟨⟨⟨h1, h2⟩, h3⟩, h4⟩, h5⟩ := hb
        refine ⟨by simpa using hd, by omega, by omega, h1, by omega, by omega, fun hc => ?_, fun hg => Classical.byContradiction fun h => h2 hg h⟩
        have := h5 hc
        simpa using this
theorem RunI.put {n : Nat} {lv : Int} {own : List Ent} {s : TB} {out : L} {bls : List (List (L × L))} {cur : List (L × L)} (h : RunI n lv own s out bls cur) (hs : (foldB cur).size < 256) {e : Ent} (he : s.err e = 0) : RunI n lv (own ++ [e]) (s.put e) out bls (cur ++ [rowE e]) := by
  obtain ⟨e1, e2, e3, e4, e5, e6, e7, e8⟩ := err_zero he
  have hk := rowK_len e2
  have hv := rowV_le2 e3
  have hless : own ≠ [] → lessL (lastK (own.map rowE)) (rowK e) = true := fun hn => by
    rw [← h.last]
    exact e7 (by rw [h.count]; exact List.length_pos_iff.2 hn)
  have herr : (foldB cur).err (rowK e) (rowV e) = 0 := by
    unfold BB.err
    rw [if_neg (by omega), if_neg]
    rintro ⟨h1, h2⟩
    rw [foldB_count] at h1
    have hc : cur ≠ [] := List.length_pos_iff.1 h1
    rw [foldB_lastK, ← lastK_app bls.flatten hc, h.rows] at h2
    have hn : own ≠ [] := by
      rintro rfl
      have := h.rows
      simp at this
      exact hc this.2
    rw [hless hn] at h2
    cases h2
  have hdata : (s.put e).data = foldB (cur ++ [rowE e]) := by
    show s.data.add (rowK e) (rowV e) = _
    rw [h.data, foldB_snoc]
    unfold BB.add
    rw [if_pos herr]
    rfl
  have henc := BB.enc_len (foldB cur) (rowK e) (rowV e)
  have hsz : (foldB (cur ++ [rowE e])).size ≤ 1000 := by
    rw [foldB_snoc]
    unfold BB.size at hs ⊢
    unfold BB.put
    simp only [List.length_append, rowE]
    split
    · simp only [List.length_append, List.length_singleton]; omega
    · omega
  have hpair : (own.map rowE ++ [rowE e]).Pairwise fun a b => lessL a.1 b.1 = true := by
    rw [List.pairwise_append]
    refine ⟨h.sorted, List.pairwise_singleton _ _, fun a ha b hb => ?_⟩
    simp at hb
    subst hb
    have hn : own ≠ [] := by rintro rfl; cases ha
    have hm : own.map rowE ≠ [] := by simpa using hn
    obtain ⟨c, x, hcx⟩ : ∃ c x, own.map rowE = c ++ [x] := ⟨_, _, (List.dropLast_concat_getLast hm).symm⟩
    have hl := hless hn
    have hp := h.sorted
    rw [hcx] at hl hp ha
    rw [lastK_snoc] at hl
    rw [List.pairwise_append] at hp
    rcases List.mem_append.1 ha with ha | ha
    · exact less_trans (hp.2.2 a ha x (by simp)) hl
    · simp at ha
      rw [ha]
      exact hl
  have hcnt : (s.put e).t.count = (own ++ [e]).length := by
    show s.t.count + 1 = _
    rw [h.count]; simp
  refine ⟨?_, h.out_, h.parts, h.at_, hdata, ?_, hsz, h.vbls, h.index, h.vix, h.ib, ?_, h.done, ?_, ?_, ?_, ?_, ?_, h.tn, h.tl, h.tz, hcnt, ?_, ?_, ?_, ?_⟩
  · rw [← List.append_assoc, h.rows]; simp
  · exact ValidB.snoc h.vcur herr
  · show rowK e = _
    rw [List.map_append, List.map_singleton, lastK_snoc]; rfl
  · rw [List.map_append, List.map_singleton]; exact hpair
  · intro x hx
    rcases List.mem_append.1 hx with hx | hx
    · exact h.small x hx
    · simp at hx
      subst hx
      exact ⟨e2, e3, e5, e6⟩
  · intro x hx
    show x.key ∈ (if s.t.last = e.key then s.keys else s.keys ++ [e.key])
    have hmem : ∀ y ∈ own, y.key ∈ (if s.t.last = e.key then s.keys else s.keys ++ [e.key]) := fun y hy => by
      split
      · exact h.keys y hy
      · exact List.mem_append_left _ (h.keys y hy)
    rcases List.mem_append.1 hx with hx | hx
    · exact hmem x hx
    · simp at hx
      subst hx
      by_cases hl : s.t.last = x.key
      · rw [if_pos hl]
        rw [h.tlast] at hl
        rcases hg : own.getLast? with _ | y
        · rw [hg] at hl
          exact absurd hl.symm e4
        · rw [hg] at hl
          have hy : y ∈ own := List.mem_of_getLast? hg
          have : y.key = x.key := hl
          rw [← this]
          exact h.keys y hy
      · rw [if_neg hl]
        simp
  · show (if s.t.last = e.key then s.keys else s.keys ++ [e.key]).length ≤ _
    have := h.kl
    split <;> simp <;> omega
  · intro k hk2
    have hk3 : k ∈ (if s.t.last = e.key then s.keys else s.keys ++ [e.key]) := hk2
    split at hk3
    · exact h.ks k hk3
    · rcases List.mem_append.1 hk3 with h4 | h4
      · exact h.ks k h4
      · simp at h4
        rw [h4]
        exact e2
  · show (if s.t.count = 0 then e.key else s.t.first) = _
    rw [h.count]
    cases own with
    | nil => rfl
    | cons a l => rw [if_neg (by simp), h.first]; rfl
  · show e.key = _
    simp
  · show min (if s.t.count = 0 then e.seq else s.t.least) e.seq = _
    rw [h.count, List.foldl_append]
    cases own with
    | nil => rfl
    | cons a l => rw [if_neg (by simp), h.least]; rfl
  · show max (if s.t.count = 0 then e.seq else s.t.most) e.seq = _
    rw [h.count, List.foldl_append]
    cases own with
    | nil => rfl
    | cons a l => rw [if_neg (by simp), h.most]; rfl
theorem RunI.ends_ {n : Nat} {lv : Int} {own : List Ent} {s : TB} {out : L} {bls : List (List (L × L))} {cur : List (L × L)} (h : RunI n lv own s out bls cur) (hc : cur ≠ []) : RunI n lv own s.ends (out ++ s.data.out) (bls ++ [cur]) [] := by
  have hl : s.last = lastK cur := by rw [h.last, ← h.rows, lastK_app _ hc]
  have hlen : (lastK cur).length ≤ 139 := by
    obtain ⟨x, hx, e⟩ := lastK_mem hc
    have hm : x ∈ own.map rowE := by rw [← h.rows]; exact List.mem_append_right _ hx
    obtain ⟨y, hy, rfl⟩ := List.mem_map.1 hm
    rw [← e]
    exact rowK_len (h.small y hy).1
  have hv2 := varL_two (0 + (outs bls).length) (outB cur).length
  have herr : (foldB (ixOf 0 bls)).err (lastK cur) (varL [0 + (outs bls).length, (outB cur).length]) = 0 := by
    unfold BB.err
    rw [if_neg (by omega), if_neg]
    rintro ⟨h1, h2⟩
    rw [foldB_count, ixOf_len] at h1
    have hb : bls ≠ [] := List.length_pos_iff.1 h1
    obtain ⟨c, b, rfl⟩ : ∃ c x, bls = c ++ [x] := ⟨_, _, (List.dropLast_concat_getLast hb).symm⟩
    rw [foldB_lastK, ixOf_snoc, lastK_snoc] at h2
    obtain ⟨x, hx, ex⟩ := lastK_mem (h.vbls b (by simp)).2.1
    obtain ⟨y, hy, ey⟩ := lastK_mem hc
    have hp := h.sorted
    rw [← h.rows, List.pairwise_append] at hp
    have := hp.2.2 x (by simp; exact .inr hx) y hy
    rw [ex, ey] at this
    simp only at h2
    rw [this] at h2
    cases h2
  have hat : s.at_ = 0 + (outs bls).length := by rw [h.at_, h.out_]; omega
  have hindex : s.ends.index = foldB (ixOf 0 (bls ++ [cur])) := by
    show s.index.add s.last (varL [s.at_, s.data.out.length]) = _
    rw [h.index, hl, hat, h.data, ixOf_snoc, foldB_snoc]
    unfold BB.add
    rw [if_pos (by exact herr)]
    rfl
  have hout : s.data.out = outB cur := by rw [h.data]; rfl
  have henc := BB.enc_len (foldB (ixOf 0 bls)) (lastK cur) (varL [0 + (outs bls).length, (outB cur).length])
  refine ⟨?_, ?_, ?_, ?_, rfl, ValidB.nil, by decide, ?_, hindex, ?_, ?_, h.last, h.done, h.sorted, h.small, h.keys, h.kl, h.ks, h.tn, h.tl, h.tz, h.count, h.first, h.tlast, h.least, h.most⟩
  · rw [List.append_nil, ← h.rows]; simp
  · rw [outs_snoc, h.out_, hout]
  · show s.parts ++ [s.data.out] = _
    rw [h.parts, hout]; simp
  · show s.at_ + s.data.out.length = _
    rw [h.at_, List.length_append]
  · intro b hb
    rcases List.mem_append.1 hb with hb | hb
    · exact h.vbls b hb
    · simp at hb
      subst hb
      refine ⟨h.vcur, hc, ?_⟩
      have := h.csz
      unfold outB
      rw [BB.out_len]
      exact this
  · rw [ixOf_snoc]
    exact ValidB.snoc h.vix herr
  · have h1 := h.ib
    rw [ixOf_snoc, foldB_snoc]
    unfold BB.put
    simp only [List.length_append, List.length_singleton]
    omega
/-- One more entry that may come. -/
theorem RunI.step {n : Nat} {lv : Int} {own : List Ent} {s : TB} {out : L} {bls : List (List (L × L))} {cur : List (L × L)} (h : RunI n lv own s out bls cur) (hs : (foldB cur).size < 256) {e : Ent} (he : s.err e = 0) :
    ∃ bls' cur', RunI n lv (own ++ [e]) (s.add e).1 (out ++ (s.add e).2) bls' cur' ∧ (foldB cur').size < 256 := by
  have hp := h.put hs he
  unfold TB.add
  rw [if_pos he]
  by_cases hz : 256 ≤ (s.put e).data.size
  · rw [if_pos hz]
    exact ⟨_, _, hp.ends_ (by simp), by decide⟩
  · rw [if_neg hz]
    rw [List.append_nil]
    exact ⟨_, _, hp, by rw [← hp.data]; omega⟩
theorem add_err {s : TB} {e : Ent} (he : s.err e ≠ 0) : s.add e = (s, []) := by unfold TB.add; rw [if_neg he]
theorem RunI.blen {n : Nat} {lv : Int} {own : List Ent} {s : TB} {out : L} {bls : List (List (L × L))} {cur : List (L × L)} (h : RunI n lv own s out bls cur) : bls.length + cur.length ≤ own.length ∧ out.length ≤ 1000 * bls.length := by
  constructor
  · have h1 := congrArg List.length h.rows
    simp only [List.length_append, List.length_map] at h1
    have h2 : ∀ l : List (List (L × L)), (∀ b ∈ l, b ≠ []) → l.length ≤ l.flatten.length := by
      intro l
      induction l with
      | nil => intro _; simp
      | cons b l ih =>
        intro hb
        have h3 := ih (fun c hc => hb c (List.mem_cons_of_mem _ hc))
        have h4 : 0 < b.length := List.length_pos_iff.2 (hb b (List.mem_cons_self ..))
        simp only [List.flatten_cons, List.length_append, List.length_cons]
        omega
    have h3 := h2 bls (fun b hb => (h.vbls b hb).2.1)
    omega
  · rw [h.out_]
    have h2 : ∀ l : List (List (L × L)), (∀ b ∈ l, (outB b).length ≤ 1000) → (outs l).length ≤ 1000 * l.length := by
      intro l
      induction l with
      | nil => intro _; simp [outs]
      | cons b l ih =>
        intro hb
        have h3 := ih (fun c hc => hb c (List.mem_cons_of_mem _ hc))
        have h4 := hb b (List.mem_cons_self ..)
        rw [outs_cons]
        simp only [List.length_append, List.length_cons]
        omega
    exact h2 bls (fun b hb => (h.vbls b hb).2.2)
theorem varL_two_eq (a b : Nat) : varL [a, b] = varL1 a ++ varL1 b := by simp [varL]
theorem readVar_one (n : Nat) (h : n < 18446744073709551616) : readVar (varL1 n) = some (n, (varL1 n).length) := by
  have := readVar_var n h []
  simpa using this
theorem blocksT_run : ∀ (bls : List (List (L × L))) (pre rest : L) (n : Nat), (∀ b ∈ bls, ValidB b ∧ b.length < 4294967296) → pre.length + (outs bls).length ≤ n → n < 18446744073709551616 → blocksT (pre ++ (outs bls ++ rest)) n (ixOf pre.length bls) = some bls
  | [], pre, rest, n, _, _, _ => rfl
  | b :: r, pre, rest, n, hb, hn, hn2 => by
    rw [outs_cons, List.length_append] at hn
    have h1 := readVar_var pre.length (by omega) (varL1 (outB b).length)
    have h2 := readVar_one (outB b).length (by omega)
    have ih := blocksT_run r (pre ++ outB b) rest n (fun c hc => hb c (List.mem_cons_of_mem _ hc)) (by rw [List.length_append]; omega) hn2
    rw [List.length_append] at ih
    have e1 : pre ++ (outs (b :: r) ++ rest) = (pre ++ outB b) ++ (outs r ++ rest) := by rw [outs_cons]; simp
    have e2 : ((pre ++ (outs (b :: r) ++ rest)).drop pre.length).take (outB b).length = outB b := by
      rw [List.drop_left, outs_cons, List.append_assoc, List.take_left]
    have e3 : openB (outB b) = some b := openB_out (hb b (List.mem_cons_self ..)).1 (hb b (List.mem_cons_self ..)).2
    unfold ixOf blocksT
    rw [varL_two_eq, h1]
    simp only []
    rw [List.drop_left, h2]
    simp only []
    rw [if_neg (by omega), e2, e3]
    simp only []
    rw [e1, ih]
    rfl
section
variable {n : Nat} {lv : Int} {own : List Ent} {s : TB} {out : L} {bls : List (List (L × L))} {cur : List (L × L)}
theorem RunI.fin_ (h : RunI n lv own s out bls cur) : ∃ bls', RunI n lv own s.fin (out ++ s.rest) bls' [] := by
  have hc : s.data.count = cur.length := by rw [h.data, foldB_count]
  unfold TB.fin TB.rest
  rw [hc]
  by_cases h0 : 0 < cur.length
  · rw [if_pos h0, if_pos h0]
    exact ⟨_, h.ends_ (List.length_pos_iff.1 h0)⟩
  · rw [if_neg h0, if_neg h0]
    have : cur = [] := List.eq_nil_of_length_eq_zero (by omega)
    subst this
    rw [List.append_nil]
    exact ⟨_, h⟩
theorem RunI.index_out (h : RunI n lv own s out bls cur) (hn : own.length ≤ 1000000) : s.index.outX = outB (ixOf 0 bls) ∧ (outB (ixOf 0 bls)).length ≤ 200000000 := by
  have hb := h.blen.1
  have hi := h.ib
  have hs := foldB_starts_le (ixOf 0 bls)
  have hst := foldB_starts (ixOf 0 bls)
  rw [ixOf_len] at hst
  rw [h.index]
  constructor
  · refine BB.outX_eq (fun m hm => ?_) ?_
    · have := hs m hm; omega
    · rw [foldB_count, ixOf_len]; omega
  · unfold outB
    rw [BB.out_len]
    unfold BB.size
    omega
/-- What a builder has told, and the end, reads az its parts. -/
theorem RunI.readT_ (h : RunI n lv own s out bls []) (hn : own.length ≤ 1000000) : readT (out ++ s.tail) = some (filterL s.keys, ixOf 0 bls, bls) := by
  obtain ⟨hix, hil⟩ := h.index_out hn
  obtain ⟨hb, ho⟩ := h.blen
  have hkl := h.kl
  have hfl : (filterL s.keys).length ≤ 2000000 := by rw [filterL_len]; unfold filterN; omega
  have hcl := crcL_lt (s.parts ++ [s.tail0]).flatten
  have hat := h.at_
  have hcnt := h.count
  have hv := h.vix
  have hvb := h.vbls
  have hout := h.out_
  have hrows := congrArg List.length h.rows
  unfold TB.tail
  generalize crcL (s.parts ++ [s.tail0]).flatten = crc at *
  unfold TB.tail0
  rw [hix, hat]
  generalize filterL s.keys = fl at *
  rw [bigX_of (by omega), bigX_of (by omega), bigX_of (by omega)]
  generalize s.t.count = cn at *
  have hbv : ∀ m, m < 4294967296 → beV (bigL m 4) = m := fun m hm => by
    rw [beV_big]
    exact Nat.mod_eq_of_lt hm
  have hS : out ++ (fl ++ outB (ixOf 0 bls) ++ bigL out.length 4 ++ bigL (out.length + fl.length) 4 ++ bigL cn 4 ++ bigL crc 4) = (out ++ fl ++ outB (ixOf 0 bls)) ++ (bigL out.length 4 ++ (bigL (out.length + fl.length) 4 ++ (bigL cn 4 ++ bigL crc 4))) := by simp
  have hS2 : out ++ (fl ++ outB (ixOf 0 bls) ++ bigL out.length 4 ++ bigL (out.length + fl.length) 4 ++ bigL cn 4 ++ bigL crc 4) = (out ++ fl ++ outB (ixOf 0 bls) ++ bigL out.length 4) ++ (bigL (out.length + fl.length) 4 ++ (bigL cn 4 ++ bigL crc 4)) := by simp
  have hS3 : out ++ (fl ++ outB (ixOf 0 bls) ++ bigL out.length 4 ++ bigL (out.length + fl.length) 4 ++ bigL cn 4 ++ bigL crc 4) = (out ++ fl) ++ (outB (ixOf 0 bls) ++ (bigL out.length 4 ++ (bigL (out.length + fl.length) 4 ++ (bigL cn 4 ++ bigL crc 4)))) := by simp
  have hS4 : out ++ (fl ++ outB (ixOf 0 bls) ++ bigL out.length 4 ++ bigL (out.length + fl.length) 4 ++ bigL cn 4 ++ bigL crc 4) = out ++ (fl ++ (outB (ixOf 0 bls) ++ (bigL out.length 4 ++ (bigL (out.length + fl.length) 4 ++ (bigL cn 4 ++ bigL crc 4))))) := by simp
  have hlen : (out ++ (fl ++ outB (ixOf 0 bls) ++ bigL out.length 4 ++ bigL (out.length + fl.length) 4 ++ bigL cn 4 ++ bigL crc 4)).length = out.length + fl.length + (outB (ixOf 0 bls)).length + 16 := by
    simp only [List.length_append, bigL_len]
    omega
  have hpre : (out ++ fl ++ outB (ixOf 0 bls)).length = out.length + fl.length + (outB (ixOf 0 bls)).length := by simp only [List.length_append]
  have hpre2 : (out ++ fl ++ outB (ixOf 0 bls) ++ bigL out.length 4).length = out.length + fl.length + (outB (ixOf 0 bls)).length + 4 := by simp only [List.length_append, bigL_len]
  have q1 : beV (((out ++ (fl ++ outB (ixOf 0 bls) ++ bigL out.length 4 ++ bigL (out.length + fl.length) 4 ++ bigL cn 4 ++ bigL crc 4)).drop (out.length + fl.length + (outB (ixOf 0 bls)).length)).take 4) = out.length := by
    rw [hS, List.drop_left' hpre, List.take_left' (bigL_len _ 4), hbv _ (by omega)]
  have q2 : beV (((out ++ (fl ++ outB (ixOf 0 bls) ++ bigL out.length 4 ++ bigL (out.length + fl.length) 4 ++ bigL cn 4 ++ bigL crc 4)).drop (out.length + fl.length + (outB (ixOf 0 bls)).length + 4)).take 4) = out.length + fl.length := by
    rw [hS2, List.drop_left' hpre2, List.take_left' (bigL_len _ 4), hbv _ (by omega)]
  have q3 : openB (((out ++ (fl ++ outB (ixOf 0 bls) ++ bigL out.length 4 ++ bigL (out.length + fl.length) 4 ++ bigL cn 4 ++ bigL crc 4)).drop (out.length + fl.length)).take (outB (ixOf 0 bls)).length) = some (ixOf 0 bls) := by
    rw [hS3, List.drop_left' (by simp only [List.length_append]), List.take_left' rfl]
    exact openB_out hv (by rw [ixOf_len]; omega)
  have q4 : ((out ++ (fl ++ outB (ixOf 0 bls) ++ bigL out.length 4 ++ bigL (out.length + fl.length) 4 ++ bigL cn 4 ++ bigL crc 4)).drop out.length).take fl.length = fl := by
    rw [hS4, List.drop_left' rfl, List.take_left' rfl]
  have hbl : ∀ b ∈ bls, ValidB b ∧ b.length < 4294967296 := fun b hb2 => by
    refine ⟨(hvb b hb2).1, ?_⟩
    have h1 : b.length ≤ bls.flatten.length := (List.sublist_flatten_of_mem hb2).length_le
    simp only [List.length_append, List.length_map, List.length_nil] at hrows
    omega
  have q5 : blocksT (out ++ (fl ++ outB (ixOf 0 bls) ++ bigL out.length 4 ++ bigL (out.length + fl.length) 4 ++ bigL cn 4 ++ bigL crc 4)) out.length (ixOf 0 bls) = some bls := by
    have := blocksT_run bls [] (fl ++ outB (ixOf 0 bls) ++ bigL out.length 4 ++ bigL (out.length + fl.length) 4 ++ bigL cn 4 ++ bigL crc 4) out.length hbl (by rw [hout]; simp) (by omega)
    rw [List.nil_append, ← hout] at this
    exact this
  generalize out ++ (fl ++ outB (ixOf 0 bls) ++ bigL out.length 4 ++ bigL (out.length + fl.length) 4 ++ bigL cn 4 ++ bigL crc 4) = S at *
  generalize (outB (ixOf 0 bls)).length = I at *
  unfold readT
  rw [if_neg (by omega), show S.length - 16 = out.length + fl.length + I from by omega, show S.length - 12 = out.length + fl.length + I + 4 from by omega, q1, q2, if_neg (by omega), show out.length + fl.length + I - (out.length + fl.length) = I from by omega, q3]
  simp only []
  rw [q5]
  simp only []
  rw [show out.length + fl.length - out.length = fl.length from by omega, q4]
end
/-- A builder's run over entries, from a fresh builder on. -/
def runG (es : List Ent) (a : TB × L) : TB × L := es.foldl (fun a e => ((a.1.add e).1, a.2 ++ (a.1.add e).2)) a
def TB.nl (s : TB) (n : Nat) (lv : Int) : TB := { s with t := { s.t with n := n, level := lv } }
theorem nl_add (s : TB) (n : Nat) (lv : Int) (e : Ent) : (s.nl n lv).add e = ((s.add e).1.nl n lv, (s.add e).2) := by
  have h1 : (s.nl n lv).err e = s.err e := rfl
  have h2 : (s.nl n lv).put e = (s.put e).nl n lv := rfl
  have h3 : ((s.put e).nl n lv).data = (s.put e).data := rfl
  have h4 : ((s.put e).nl n lv).ends = (s.put e).ends.nl n lv := rfl
  unfold TB.add
  rw [h1, h2, h3, h4]
  split
  · split <;> rfl
  · rfl
theorem nl_run : ∀ (es : List Ent) (s : TB) (out : L) (n : Nat) (lv : Int), runG es (s.nl n lv, out) = ((runG es (s, out)).1.nl n lv, (runG es (s, out)).2)
  | [], s, out, n, lv => rfl
  | e :: es, s, out, n, lv => by
    have := nl_run es (s.add e).1 (out ++ (s.add e).2) n lv
    unfold runG at this ⊢
    rw [List.foldl_cons, List.foldl_cons]
    simp only [nl_add]
    exact this
theorem nl_outL (s : TB) (n : Nat) (lv : Int) : (s.nl n lv).outL = s.outL := by
  have h1 : (s.nl n lv).done = s.done := rfl
  have h2 : (s.nl n lv).t.count = s.t.count := rfl
  have h3 : (s.nl n lv).rest = s.rest := rfl
  have h4 : (s.nl n lv).fin = s.fin.nl n lv := by
    unfold TB.fin
    have : (s.nl n lv).data = s.data := rfl
    rw [this]
    split <;> rfl
  unfold TB.outL
  rw [h1, h2, h3, h4]
  rfl
theorem againT_rows : ∀ (es : List Ent) (a : TB × L), (∀ e ∈ es, e.seq ≤ 18446744073709551615) → againT (es.map rowE) a = some (runG es a)
  | [], a, _ => rfl
  | e :: es, a, h => by
    have ih := againT_rows es ((a.1.add e).1, a.2 ++ (a.1.add e).2) (fun x hx => h x (List.mem_cons_of_mem _ hx))
    simp only [List.map_cons, rowE, againT]
    rw [entryP_row e (h e (List.mem_cons_self ..))]
    exact ih
/-- What was built opens. -/
theorem openT_run {n : Nat} {lv : Int} {own : List Ent} {s : TB} {out : L} {bls : List (List (L × L))} {cur : List (L × L)} (h : RunI n lv own s out bls cur) (hr : runG own (TB.new n lv, []) = (s, out)) (hne : own ≠ []) (hn : own.length ≤ 1000000) :
    ∃ bls', openT (out ++ s.outL) = some (filterL s.keys, ixOf 0 bls', bls') ∧ RunI n lv own s.fin (out ++ s.rest) bls' [] := by
  obtain ⟨bls', h2⟩ := h.fin_
  refine ⟨bls', ?_, h2⟩
  have hkeys : s.fin.keys = s.keys := by unfold TB.fin; split <;> rfl
  have hrd := h2.readT_ hn
  rw [hkeys] at hrd
  have hol : s.outL = s.rest ++ s.fin.tail := by
    unfold TB.outL
    rw [if_neg]
    rintro (h1 | h1)
    · rw [h.done] at h1; cases h1
    · rw [h.count] at h1
      exact hne (List.eq_nil_of_length_eq_zero h1)
  have hfl : bls'.flatten = own.map rowE := by have := h2.rows; rwa [List.append_nil] at this
  have hag := againT_rows own (TB.new 0 0, []) (fun e he => by have := (h.small e he).2.2.2; omega)
  have hnl := nl_run own (TB.new 0 0) [] n lv
  have hnew : (TB.new 0 0).nl n lv = TB.new n lv := rfl
  rw [hnew, hr] at hnl
  generalize runG own (TB.new 0 0, []) = r at *
  obtain ⟨s0, o0⟩ := r
  injection hnl with e1 e2
  subst e1 e2
  rw [nl_outL] at hol
  rw [nl_outL, hol]
  unfold openT
  rw [← List.append_assoc, hrd]
  simp only []
  rw [hfl, hag]
  simp only []
  rw [hol, if_pos (by rw [List.append_assoc])]
theorem get_takeWhile {α : Type} (p : α → Bool) : ∀ l : List α, l[(l.takeWhile p).length]? = l.find? fun x => !p x
  | [] => rfl
  | a :: l => by
    rw [List.takeWhile_cons, List.find?_cons]
    cases h : p a
    · simp
    · simp only [if_true, List.length_cons, List.getElem?_cons_succ, Bool.not_true]
      exact get_takeWhile p l
theorem drop_takeWhile {α : Type} (p : α → Bool) : ∀ l : List α, l.drop (l.takeWhile p).length = l.dropWhile p
  | [] => rfl
  | a :: l => by
    rw [List.takeWhile_cons, List.dropWhile_cons]
    cases h : p a
    · simp
    · simp only [if_true, List.length_cons, List.drop_succ_cons]
      exact drop_takeWhile p l
def Srt (l : List (L × L)) : Prop := l.Pairwise fun a b => lessL a.1 b.1 = true
theorem Srt.last_le {b : List (L × L)} (hs : Srt b) {x : L × L} (hx : x ∈ b) : x.1 = lastK b ∨ lessL x.1 (lastK b) = true := by
  have hb : b ≠ [] := by rintro rfl; cases hx
  obtain ⟨c, y, rfl⟩ : ∃ c x, b = c ++ [x] := ⟨_, _, (List.dropLast_concat_getLast hb).symm⟩
  rw [lastK_snoc]
  unfold Srt at hs
  rw [List.pairwise_append] at hs
  rcases List.mem_append.1 hx with h | h
  · exact .inr (hs.2.2 x h y (by simp))
  · simp at h
    rw [h]
    exact .inl rfl
theorem less_of_le {a b c : L} (h : a = b ∨ lessL a b = true) (h2 : lessL b c = true) : lessL a c = true := by
  rcases h with rfl | h
  · exact h2
  · exact less_trans h h2
theorem not_less_trans {a b c : L} (h : lessL a b = false) (h2 : lessL a c = true) : lessL c b = false := by
  rcases hq : lessL c b with _ | _
  · rfl
  · rw [less_trans h2 hq] at h
    cases h
theorem blk_find (want : L) : ∀ (bls : List (List (L × L))) (a : Nat), bls[seekP (ixOf a bls) want]? = bls.find? fun b => !lessL (lastK b) want
  | [], a => rfl
  | b :: r, a => by
    have ih := blk_find want r (a + (outB b).length)
    unfold seekP at ih ⊢
    unfold ixOf
    rw [List.takeWhile_cons, List.find?_cons]
    cases h : lessL (lastK b) want
    · simp
    · simp only [if_true, List.length_cons, List.getElem?_cons_succ, Bool.not_true]
      exact ih
theorem find_flat (want : L) : ∀ (bls : List (List (L × L))), Srt bls.flatten → (∀ b ∈ bls, b ≠ []) → ((bls.find? fun b => !lessL (lastK b) want).bind fun b => b.find? fun r => !lessL r.1 want) = bls.flatten.find? fun r => !lessL r.1 want
  | [], _, _ => rfl
  | b :: r, hs, hne => by
    have hs2 := hs
    unfold Srt at hs2
    rw [List.flatten_cons, List.pairwise_append] at hs2
    have ih := find_flat want r hs2.2.1 (fun c hc => hne c (List.mem_cons_of_mem _ hc))
    rw [List.find?_cons, List.flatten_cons, List.find?_append]
    cases h : lessL (lastK b) want
    · simp only [Bool.not_false, Option.bind_some]
      rcases hf : b.find? fun r => !lessL r.1 want with _ | x
      · exfalso
        obtain ⟨x, hx, e⟩ := lastK_mem (hne b (List.mem_cons_self ..))
        have := List.find?_eq_none.1 hf x hx
        rw [e, h] at this
        exact this rfl
      · rw [hf]; rfl
    · simp only [Bool.not_true]
      rw [ih]
      have : b.find? (fun r => !lessL r.1 want) = none := by
        rw [List.find?_eq_none]
        intro x hx
        rw [less_of_le (Srt.last_le hs2.1 hx) h]
        simp
      rw [this]
      rfl
/-- What Get tells. -/
def getP (f : L) (ix : List (L × L)) (bls : List (List (L × L))) (key : L) (at_ : Nat) : Option Ent :=
  if mayL f key = true then match bls[seekP ix (internalL key at_)]? with
    | none => none
    | some b => match b[seekP b (internalL key at_)]? with
      | none => none
      | some r => match entryP r.1 r.2 with
        | some e => if e.key = key then some e else none
        | none => none
  else none
section
variable {n : Nat} {lv : Int} {own : List Ent} {s : TB} {out : L} {bls : List (List (L × L))}
theorem getP_run (h : RunI n lv own s out bls []) (f key : L) (at_ : Nat) : getP f (ixOf 0 bls) bls key at_ = if mayL f key = true then (own.find? fun e => !lessL (rowK e) (internalL key at_)).bind fun e => if e.key = key then some e else none else none := by
  have hrows : bls.flatten = own.map rowE := by have := h.rows; rwa [List.append_nil] at this
  have hff := find_flat (internalL key at_) bls (by rw [hrows]; exact h.sorted) (fun b hb => (h.vbls b hb).2.1)
  unfold getP
  split
  · rw [blk_find]
    have e1 : (own.map rowE).find? (fun r => !lessL r.1 (internalL key at_)) = (own.find? fun e => !lessL (rowK e) (internalL key at_)).map rowE := by
      rw [List.find?_map]
      rfl
    rw [hrows, e1] at hff
    have hmem : ∀ e, (own.find? fun e => !lessL (rowK e) (internalL key at_)) = some e → e ∈ own := fun e he => List.mem_of_find?_eq_some he
    generalize (own.find? fun e => !lessL (rowK e) (internalL key at_)) = o at *
    generalize (bls.find? fun b => !lessL (lastK b) (internalL key at_)) = q at *
    rcases q with _ | b
    · cases o with
      | none => rfl
      | some e => simp at hff
    · simp only [Option.bind_some] at hff ⊢
      have hg : b[seekP b (internalL key at_)]? = o.map rowE := by
        unfold seekP
        rw [get_takeWhile]
        exact hff
      rw [hg]
      cases o with
      | none => rfl
      | some e =>
        have := (h.small e (hmem e rfl)).2.2.2
        simp only [Option.map_some, rowE, Option.bind_some]
        rw [entryP_row e (by omega)]
  · rfl
theorem RunI.srt (h : RunI n lv own s out bls []) : own.Pairwise fun a b => lessL (rowK a) (rowK b) = true := by
  have := h.sorted
  rw [List.pairwise_map] at this
  exact this
theorem RunI.may (h : RunI n lv own s out bls []) {e : Ent} (he : e ∈ own) : mayL (filterL s.keys) e.key = true := may_filter (h.keys e he)
theorem find_at {p : Ent → Bool} {l : List Ent} {i : Nat} {e : Ent} (hi : l[i]? = some e) (hp : p e = true) (hb : ∀ j x, j < i → l[j]? = some x → p x = false) : l.find? p = some e := by
  rw [List.find?_eq_some_iff_getElem]
  have hl := (List.getElem?_eq_some_iff.1 hi)
  obtain ⟨h1, h2⟩ := hl
  refine ⟨hp, i, h1, h2, fun j hj => ?_⟩
  have := hb j l[j] hj (List.getElem?_eq_getElem (by omega))
  rw [this]
  rfl
theorem pair_at {l : List Ent} (h : l.Pairwise fun a b => lessL (rowK a) (rowK b) = true) {i j : Nat} {a b : Ent} (hij : i < j) (ha : l[i]? = some a) (hb : l[j]? = some b) : lessL (rowK a) (rowK b) = true := by
  rw [List.pairwise_iff_getElem] at h
  obtain ⟨h1, h2⟩ := List.getElem?_eq_some_iff.1 ha
  obtain ⟨h3, h4⟩ := List.getElem?_eq_some_iff.1 hb
  rw [← h2, ← h4]
  exact h i j h1 h3 hij
/-- The newest one that is not above a number. -/
theorem get_newest (h : RunI n lv own s out bls []) {i : Nat} {e : Ent} (hi : own[i]? = some e) {at_ : Nat} (hat : at_ ≤ 18446744073709551615) (hle : e.seq ≤ at_) (hn : ∀ j x, j + 1 = i → own[j]? = some x → x.key ≠ e.key ∨ at_ < x.seq) : getP (filterL s.keys) (ixOf 0 bls) bls e.key at_ = some e := by
  have hm : e ∈ own := List.mem_of_getElem? hi
  have hs := h.small e hm
  rw [getP_run h, if_pos (h.may hm)]
  have hf : (own.find? fun x => !lessL (rowK x) (internalL e.key at_)) = some e := by
    refine find_at hi ?_ (fun j x hj hx => ?_)
    · have : lessL (rowK e) (internalL e.key at_) = false := by
        rcases hq : lessL (rowK e) (internalL e.key at_) with _ | _
        · rfl
        · rcases (internal_less (by omega) hat).1 hq with h1 | h1
          · rw [less_irrefl] at h1; cases h1
          · omega
      simp [this]
    · have hp : lessL (rowK x) (internalL e.key at_) = true := by
        have hx2 := h.small x (List.mem_of_getElem? hx)
        obtain ⟨k, hk⟩ : ∃ k, i = k + 1 := ⟨i - 1, by omega⟩
        have hil := (List.getElem?_eq_some_iff.1 hi).1
        obtain ⟨y, hy⟩ : ∃ y, own[k]? = some y := ⟨_, List.getElem?_eq_getElem (by omega)⟩
        have hy2 := h.small y (List.mem_of_getElem? hy)
        have hye := pair_at h.srt (by omega) hy hi
        have hyw : lessL (rowK y) (internalL e.key at_) = true := by
          rcases (internal_less (by omega) (by omega)).1 hye with h1 | ⟨h1, h2⟩
          · exact internal_lt_key _ _ h1
          · rcases hn k y hk.symm hy with h3 | h3
            · exact absurd h1 h3
            · exact (internal_less (by omega) hat).2 (.inr ⟨h1, h3⟩)
        rcases Nat.lt_or_ge j k with hjk | hjk
        · exact less_trans (pair_at h.srt hjk hx hy) hyw
        · obtain rfl : j = k := by omega
          rw [hx] at hy
          injection hy with hy
          rw [hy]
          exact hyw
      simp [hp]
  rw [hf]
  simp
theorem get_own (h : RunI n lv own s out bls []) {i : Nat} {e : Ent} (hi : own[i]? = some e) : getP (filterL s.keys) (ixOf 0 bls) bls e.key e.seq = some e := by
  have hs := h.small e (List.mem_of_getElem? hi)
  refine get_newest h hi (by omega) (Nat.le_refl _) (fun j x hj hx => ?_)
  have hx2 := h.small x (List.mem_of_getElem? hx)
  have := pair_at h.srt (by omega) hx hi
  rcases (internal_less (by omega) (by omega)).1 this with h1 | ⟨h1, h2⟩
  · left
    intro e1
    rw [e1, less_irrefl] at h1
    cases h1
  · exact .inr h2
theorem get_is (h : RunI n lv own s out bls []) {f key : L} {at_ : Nat} {b : Ent} (hat : at_ ≤ 18446744073709551615) (hg : getP f (ixOf 0 bls) bls key at_ = some b) : b.key = key ∧ b.seq ≤ at_ ∧ b ∈ own := by
  rw [getP_run h] at hg
  split at hg
  · rcases hf : (own.find? fun e => !lessL (rowK e) (internalL key at_)) with _ | e
    · rw [hf] at hg; cases hg
    · rw [hf] at hg
      simp only [Option.bind_some] at hg
      split at hg
      · rename_i hk
        injection hg with hg
        subst hg
        have hm := List.mem_of_find?_eq_some hf
        have hp := List.find?_some hf
        refine ⟨hk, ?_, hm⟩
        rcases Nat.lt_or_ge at_ e.seq with h1 | h1
        · have : lessL (rowK e) (internalL key at_) = true := (internal_less (by have := (h.small e hm).2.2.2; omega) hat).2 (.inr ⟨hk, h1⟩)
          rw [this] at hp
          cases hp
        · exact h1
      · cases hg
  · cases hg
end
def entE (r : L × L) : Ent := (entryP r.1 r.2).getD ent0
def keepP (to_ : L) (e : Ent) : Bool := decide (to_ = []) || lessL e.key to_
def rowsP (first : L) (bls : List (List (L × L))) : List (L × L) := bls.flatMap fun b => b.drop (seekP b first)
/-- What Range tells. -/
def rangeP (ix : List (L × L)) (bls : List (List (L × L))) (from_ to_ : L) : List Ent := ((rowsP (internalL from_ 18446744073709551615) (bls.drop (seekP ix (internalL from_ 18446744073709551615)))).map entE).takeWhile (keepP to_)
theorem drop_all {p : L × L → Bool} : ∀ l : List (L × L), (∀ x ∈ l, p x = false) → l.dropWhile p = l
  | [], _ => rfl
  | a :: l, h => by rw [List.dropWhile_cons, h a (List.mem_cons_self ..)]; simp
theorem drop_none {p : L × L → Bool} : ∀ l : List (L × L), (∀ x ∈ l, p x = true) → l.dropWhile p = []
  | [], _ => rfl
  | a :: l, h => by rw [List.dropWhile_cons, h a (List.mem_cons_self ..)]; simp only [if_true]; exact drop_none l (fun x hx => h x (List.mem_cons_of_mem _ hx))
theorem dropWhile_app {p : L × L → Bool} : ∀ (a b : List (L × L)), (∃ x ∈ a, p x = false) → (a ++ b).dropWhile p = a.dropWhile p ++ b
  | [], b, ⟨x, hx, _⟩ => by cases hx
  | y :: a, b, ⟨x, hx, hp⟩ => by
    rw [List.cons_append, List.dropWhile_cons, List.dropWhile_cons]
    cases h : p y
    · simp
    · simp only [if_true]
      refine dropWhile_app a b ⟨x, ?_, hp⟩
      rcases List.mem_cons.1 hx with rfl | hx
      · rw [h] at hp; cases hp
      · exact hx
theorem dropWhile_app2 {p : L × L → Bool} : ∀ (a b : List (L × L)), (∀ x ∈ a, p x = true) → (a ++ b).dropWhile p = b.dropWhile p
  | [], b, _ => rfl
  | y :: a, b, h => by
    rw [List.cons_append, List.dropWhile_cons, h y (List.mem_cons_self ..)]
    simp only [if_true]
    exact dropWhile_app2 a b (fun x hx => h x (List.mem_cons_of_mem _ hx))
theorem rowsP_all (first : L) : ∀ bls : List (List (L × L)), (∀ x ∈ bls.flatten, lessL x.1 first = false) → rowsP first bls = bls.flatten
  | [], _ => rfl
  | b :: r, h => by
    have ih := rowsP_all first r (fun x hx => h x (by rw [List.flatten_cons]; exact List.mem_append_right _ hx))
    have h1 : b.drop (seekP b first) = b := by
      unfold seekP
      rw [drop_takeWhile]
      exact drop_all b (fun x hx => h x (by rw [List.flatten_cons]; exact List.mem_append_left _ hx))
    unfold rowsP at ih ⊢
    rw [List.flatMap_cons, ih, h1, List.flatten_cons]
theorem rowsP_drop (first : L) : ∀ (bls : List (List (L × L))) (a : Nat), Srt bls.flatten → (∀ b ∈ bls, b ≠ []) → rowsP first (bls.drop (seekP (ixOf a bls) first)) = bls.flatten.dropWhile fun r => lessL r.1 first
  | [], a, _, _ => rfl
  | b :: r, a, hs, hne => by
    have hs2 := hs
    unfold Srt at hs2
    rw [List.flatten_cons, List.pairwise_append] at hs2
    have ih := rowsP_drop first r (a + (outB b).length) hs2.2.1 (fun c hc => hne c (List.mem_cons_of_mem _ hc))
    unfold seekP ixOf
    rw [List.takeWhile_cons, List.flatten_cons]
    cases h : lessL (lastK b) first
    · simp only [h, Bool.false_eq_true, if_false, List.length_nil, List.drop_zero]
      obtain ⟨x, hx, e⟩ := lastK_mem (hne b (List.mem_cons_self ..))
      have hall : ∀ y ∈ r.flatten, lessL y.1 first = false := fun y hy => not_less_trans h (by rw [← e]; exact hs2.2.2 x hx y hy)
      have h2 := rowsP_all first r hall
      rw [dropWhile_app _ _ ⟨x, hx, by rw [e]; exact h⟩]
      unfold rowsP at h2 ⊢
      rw [List.flatMap_cons, h2]
      congr 1
      unfold seekP
      rw [drop_takeWhile]
    · simp only [h, if_true, List.length_cons, List.drop_succ_cons]
      rw [dropWhile_app2 _ _ (fun x hx => less_of_le (Srt.last_le hs2.1 hx) h)]
      exact ih
theorem filter_drop {p : Ent → Bool} : ∀ l : List Ent, (l.Pairwise fun a b => p a = false → p b = false) → l.dropWhile p = l.filter fun e => !p e
  | [], _ => rfl
  | a :: l, h => by
    rw [List.pairwise_cons] at h
    rw [List.dropWhile_cons]
    cases hp : p a
    · simp only [Bool.false_eq_true, if_false]
      rw [List.filter_eq_self.2]
      intro x hx
      rcases List.mem_cons.1 hx with rfl | hx
      · simp [hp]
      · simp [h.1 x hx hp]
    · simp only [if_true]
      rw [List.filter_cons, hp]
      simp only [Bool.not_true, Bool.false_eq_true, if_false]
      exact filter_drop l h.2
theorem filter_take {p : Ent → Bool} : ∀ l : List Ent, (l.Pairwise fun a b => p a = false → p b = false) → l.takeWhile p = l.filter p
  | [], _ => rfl
  | a :: l, h => by
    rw [List.pairwise_cons] at h
    rw [List.takeWhile_cons, List.filter_cons]
    cases hp : p a
    · simp only [Bool.false_eq_true, if_false]
      rw [List.filter_eq_nil_iff.2]
      intro x hx
      simp [h.1 x hx hp]
    · simp only [if_true]
      rw [filter_take l h.2]
/-- The entries whose keys lie in a range. -/
def inP (from_ to_ : L) (e : Ent) : Bool := !lessL e.key from_ && keepP to_ e
theorem range_run {n : Nat} {lv : Int} {own : List Ent} {s : TB} {out : L} {bls : List (List (L × L))} (h : RunI n lv own s out bls []) (from_ to_ : L) : rangeP (ixOf 0 bls) bls from_ to_ = own.filter (inP from_ to_) := by
  have hrows : bls.flatten = own.map rowE := by have := h.rows; rwa [List.append_nil] at this
  unfold rangeP
  rw [rowsP_drop _ bls 0 (by rw [hrows]; exact h.sorted) (fun b hb => (h.vbls b hb).2.1), hrows, List.dropWhile_map, List.map_map]
  have hle : ∀ {a b : Ent}, lessL (rowK a) (rowK b) = true → a ∈ own → b ∈ own → a.key = b.key ∨ lessL a.key b.key = true := fun hl ha hb => by
    rcases (internal_less (by have := (h.small _ ha).2.2.2; omega) (by have := (h.small _ hb).2.2.2; omega)).1 hl with h1 | h1
    · exact .inr h1
    · exact .inl h1.1
  have hsrt : own.Pairwise fun a b => a.key = b.key ∨ lessL a.key b.key = true := by
    have := h.srt
    rw [List.pairwise_iff_getElem] at this ⊢
    intro i j hi hj hij
    exact hle (this i j hi hj hij) (List.getElem_mem hi) (List.getElem_mem hj)
  have hp : ∀ e ∈ own, lessL (rowE e).1 (internalL from_ 18446744073709551615) = lessL e.key from_ := fun e he => by
    have hs := h.small e he
    rcases hq : lessL e.key from_ with _ | _
    · rcases hq2 : lessL (rowE e).1 (internalL from_ 18446744073709551615) with _ | _
      · rfl
      · rcases (internal_less (by omega) (Nat.le_refl _)).1 hq2 with h1 | h1
        · rw [h1] at hq; cases hq
        · omega
    · exact internal_lt_key _ _ hq
  have hd : own.dropWhile ((fun r => lessL r.1 (internalL from_ 18446744073709551615)) ∘ rowE) = own.filter fun e => !lessL e.key from_ := by
    rw [filter_drop own]
    · refine List.filter_congr (fun e he => ?_)
      simp only [Function.comp]
      rw [hp e he]
    · rw [List.pairwise_iff_getElem] at hsrt ⊢
      intro i j hi hj hij
      simp only [Function.comp]
      rw [hp _ (List.getElem_mem hi), hp _ (List.getElem_mem hj)]
      intro h1
      rcases hsrt i j hi hj hij with h2 | h2
      · rw [← h2]; exact h1
      · exact not_less_trans h1 h2
  rw [hd]
  have hm : (own.filter fun e => !lessL e.key from_).map (entE ∘ rowE) = own.filter fun e => !lessL e.key from_ := by
    have : ∀ l : List Ent, (∀ e ∈ l, e.seq ≤ 18446744073709551615) → l.map (entE ∘ rowE) = l := by
      intro l
      induction l with
      | nil => intro _; rfl
      | cons a l ih =>
        intro hl
        rw [List.map_cons, ih (fun e he => hl e (List.mem_cons_of_mem _ he))]
        have h1 := entryP_row a (hl a (List.mem_cons_self ..))
        have h2 : (entE ∘ rowE) a = a := by
          show (entryP (rowK a) (rowV a)).getD ent0 = a
          rw [h1]
          rfl
        rw [h2]
    exact this _ (fun e he => by have := (h.small e (List.mem_filter.1 he).1).2.2.2; omega)
  rw [hm, filter_take]
  · rw [List.filter_filter]
    refine List.filter_congr (fun e he => ?_)
    unfold inP
    rw [Bool.and_comm]
  · refine List.Pairwise.filter _ ?_
    refine hsrt.imp (fun {a b} hab => ?_)
    unfold keepP
    intro h1
    simp only [Bool.or_eq_false_iff] at h1 ⊢
    refine ⟨h1.1, ?_⟩
    rcases hab with h2 | h2
    · rw [← h2]; exact h1.2
    · exact not_less_trans h1.2 h2
end Go.Proofs.YtfnlponoakhegaaDoor
namespace Go.Proofs.YtfnlponoakhegaaDoor
open Go.RowKit
set_option linter.unusedVariables false
set_option linter.unusedSimpArgs false
set_option maxRecDepth 100000 in
set_option maxHeartbeats 1000000 in
theorem New_any (n : Nat) (level : Int) (w : World) :
    Calls Tryd.prog 8 #[.int .u64 (n : Nat), .int .i64 level] w fun e w' => (∃ g, e = .returned (.pointer (some ⟨g, 0, none⟩)) ∧ TBAt w' w.heap.size g (TB.new n level) (.slice none 0 0) (.slice none 0 0) (.slice none 0 0) (.slice none 0 0) (.slice none 0 0) (.slice none 0 0)) ∧ Below w.heap.size w w' := by
  have hfin : TBAt (w.alloc (.cells (tbC (TB.new n level) (.slice none 0 0) (.slice none 0 0) (.slice none 0 0) (.slice none 0 0) (.slice none 0 0) (.slice none 0 0)) 67)) w.heap.size w.heap.size (TB.new n level) (.slice none 0 0) (.slice none 0 0) (.slice none 0 0) (.slice none 0 0) (.slice none 0 0) (.slice none 0 0) :=
    ⟨Nat.le_refl _, Blk.new _ _ _, OwnB.nil _ _, World.ownsRow_nil _ _ _ 1, OwnB.nil _ _, World.ownsRow_nil _ _ _ 1, World.ownsRow_nil _ _ _ 1, World.ownsRow_nil _ _ _ 1, (fun k h => by cases h), (fun k h => by cases h), (fun k h => by cases h)⟩
  replace hfin := Lib.hid hfin
  go_enter Tryd.func8, Tryd.ntmps8
  go_wp2_with fail
  go_ret
  exact ⟨⟨_, rfl, hfin.out⟩, (Below.refl _ _).alloc (Nat.le_refl _) _⟩
theorem nil_beq (l : L) : ((bs l).toList == ([] : L)) = decide (l = []) := by
  rw [bs_toList]
  by_cases h : l = [] <;> simp [h]
theorem nil_empty (l : L) : (bs l).toList.isEmpty = decide (l = []) := by
  rw [bs_toList]
  cases l <;> simp
set_option maxRecDepth 100000 in
set_option maxHeartbeats 4000000 in
theorem bad_any {w : World} {B g : Nat} {s : TB} {vb1 vs1 vb2 vs2 vk vp : Value} (h : TBAt w B g s vb1 vs1 vb2 vs2 vk vp) (hG : Gl w) (e : Ent) (hk : e.key.length ≤ 1048576) (hs : e.seq < 18446744073709551616) :
    Calls Tryd.prog 31 #[.pointer (some ⟨g, 0, none⟩), .agg (entC e)] w fun r w' => r = .returned (.bool (s.bad e)) ∧ Below w.heap.size w w' := by
  have hbx : Below w.heap.size w (w.alloc (.cells (entC e) 33)) := (Below.refl _ _).alloc (Nat.le_refl _) _
  have hlt := h.blk.lt
  have hkb := nil_beq e.key
  have hvb := nil_beq e.value
  have hc2 : w.cell? ⟨g, 2, none⟩ = some (.int .i64 (s.t.count : Nat)) := h.blk.cell 2
  have hc16 : w.cell? ⟨g, 16, none⟩ = some (strV s.last) := h.blk.cell 16
  unfold strV at hc16
  have hG1 := hG.lt
  have hin := fun W => fun (hb : Below w.heap.size w W) => Internal_any (bs e.key) e.seq W (hG.below hb hG1) (by rw [bs_size]; exact hk) hs
  rw [bs_data] at hin
  obtain ⟨ek, ev, eq, eg⟩ := e
  unfold TB.bad
  simp only [rowK] at hin ⊢
  simp only [entC] at hbx ⊢
  generalize internalL ek eq = ik at *
  by_cases hk0 : ek = []
  · simp only [hk0, decide_true, Bool.true_or]
    have hd : decide (ek = []) = true := by simpa using hk0
    rw [hd] at hkb
    replace hin := Lib.hid hin
    replace hk0 := Lib.hid hk0
    subst_vars
    go_enter Tryd.func31, Tryd.ntmps31
    go_wp2_with fail
    go_ret
    exact ⟨rfl, hbx⟩
  · have hd : decide (ek = []) = false := by simpa using hk0
    rw [hd] at hkb
    simp only [hd, Bool.false_or]
    replace hk0 := Lib.hid hk0
    by_cases hgv : eg = true ∧ ¬ ev = []
    · obtain ⟨rfl, hv0⟩ := hgv
      have hd2 : decide (ev = []) = false := by simpa using hv0
      rw [hd2] at hvb
      simp only [hd2, Bool.not_false, Bool.true_and, Bool.true_or]
      replace hin := Lib.hid hin
      replace hv0 := Lib.hid hv0
      clear hd hd2
      go_enter Tryd.func31, Tryd.ntmps31
      go_wp2_with fail
      go_ret
      exact ⟨rfl, hbx⟩
    · have hgf : (eg && !decide (ev = [])) = false := by
        cases eg
        · rfl
        · have : ev = [] := Classical.byContradiction fun h => hgv ⟨rfl, h⟩
          simp [this]
      rw [hgf, Bool.false_or]
      clear hd
      by_cases hq0 : eq < 1
      · have hq0' : ((eq : Nat) : Int) < 1 := by omega
        have hd3 : decide (eq < 1) = true := by simpa using hq0
        rw [hd3, Bool.true_or, Bool.true_or]
        replace hin := Lib.hid hin
        clear hd3
        cases eg
        · replace hgf := Lib.hid hgf
          clear hgv
          go_enter Tryd.func31, Tryd.ntmps31
          go_wp2_with fail
          go_ret
          exact ⟨rfl, hbx⟩
        · have hv0 : ev = [] := Classical.byContradiction fun h => hgv ⟨rfl, h⟩
          have hd2 : decide (ev = []) = true := by simpa using hv0
          rw [hd2] at hvb
          replace hv0 := Lib.hid hv0
          replace hgf := Lib.hid hgf
          clear hgv hd2
          go_enter Tryd.func31, Tryd.ntmps31
          go_wp2_with fail
          go_ret
          exact ⟨rfl, hbx⟩
      · have hq0' : ¬ ((eq : Nat) : Int) < 1 := by omega
        have hd3 : decide (eq < 1) = false := by simpa using hq0
        rw [hd3, Bool.false_or]
        clear hd3
        by_cases hq1 : 9223372036854775808 < eq
        · have hq1' : (9223372036854775808 : Int) < ((eq : Nat) : Int) := by omega
          have hd3 : decide (9223372036854775808 < eq) = true := by simpa using hq1
          rw [hd3, Bool.true_or]
          replace hin := Lib.hid hin
          clear hd3
          cases eg
          · replace hgf := Lib.hid hgf
            clear hgv
            go_enter Tryd.func31, Tryd.ntmps31
            go_wp2_with fail
            go_ret
            exact ⟨rfl, hbx⟩
          · have hv0 : ev = [] := Classical.byContradiction fun h => hgv ⟨rfl, h⟩
            have hd2 : decide (ev = []) = true := by simpa using hv0
            rw [hd2] at hvb
            replace hv0 := Lib.hid hv0
            replace hgf := Lib.hid hgf
            clear hgv hd2
            go_enter Tryd.func31, Tryd.ntmps31
            go_wp2_with fail
            go_ret
            exact ⟨rfl, hbx⟩
        · have hq1' : ¬ (9223372036854775808 : Int) < ((eq : Nat) : Int) := by omega
          have hd3 : decide (9223372036854775808 < eq) = false := by simpa using hq1
          rw [hd3, Bool.false_or]
          clear hd3
          have hin3 : ∀ x : Ext (w.alloc (.cells #[.string (bs ek), .string (bs ev), .int .u64 (eq : Nat), .bool eg] 33)), Calls Tryd.prog 16 #[.string (bs ek), .int .u64 (eq : Nat)] x.w fun e w' => e = .returned (.string (bs ik)) ∧ Below x.w.heap.size x.w w' := fun x => hin x.w (hbx.trans (x.below.mono hbx.size))
          have hle : (Op.bytesLess (bs ik).toList (bs s.last).toList || (bs ik).toList == (bs s.last).toList) = !(lessL s.last ik) := by
            rw [bs_toList, bs_toList]
            exact less_tri _ _
          have hB := Blk.new w 33 #[.string (bs ek), .string (bs ev), .int .u64 (eq : Nat), .bool eg]
          have hga := h.blk.alloc (.cells #[.string (bs ek), .string (bs ev), .int .u64 (eq : Nat), .bool eg] 33)
          have za2 : (w.alloc (.cells #[.string (bs ek), .string (bs ev), .int .u64 (eq : Nat), .bool eg] 33)).cell? ⟨g, 2, none⟩ = some (.int .i64 (s.t.count : Nat)) := hga.cell 2
          have za16 : (w.alloc (.cells #[.string (bs ek), .string (bs ev), .int .u64 (eq : Nat), .bool eg] 33)).cell? ⟨g, 16, none⟩ = some (.string (bs s.last)) := hga.cell 16
          replace hin := Lib.hid hin
          replace hin3 := Lib.hid hin3
          replace hq0 := Lib.hid hq0
          replace hq1 := Lib.hid hq1
          by_cases hc0 : 0 < s.t.count
          · have hc0' : (0 : Int) < (s.t.count : Nat) := by omega
            have hd4 : decide (0 < s.t.count) = true := by simpa using hc0
            rw [hd4, Bool.true_and]
            generalize (!lessL s.last ik) = res at *
            clear hd4
            cases eg
            · replace hgf := Lib.hid hgf
              clear hgv
              go_enter Tryd.func31, Tryd.ntmps31
              go_wp2_with fail
              have hxc := @Ext.cell
              refine wp_region_ext (by kernel_rfl) (by kernel_rfl) ?_
              repeat (go_big_quiet_step ((first | (go_at_call 16; exact Calls.ext (hin3.out _)))))
              refine wpQuiet_nil ?_
              clear hxc
              intro wx hwx
              obtain ⟨x, hx⟩ := hwx
              have hb := x.below
              rw [← hx] at hb
              clear hx x
              go_wp2_with fail
              go_ret
              exact ⟨rfl, hbx.trans (hb.mono hbx.size)⟩
            · have hv0 : ev = [] := Classical.byContradiction fun h => hgv ⟨rfl, h⟩
              have hd2 : decide (ev = []) = true := by simpa using hv0
              rw [hd2] at hvb
              replace hv0 := Lib.hid hv0
              replace hgf := Lib.hid hgf
              clear hgv hd2
              go_enter Tryd.func31, Tryd.ntmps31
              go_wp2_with fail
              have hxc := @Ext.cell
              refine wp_region_ext (by kernel_rfl) (by kernel_rfl) ?_
              repeat (go_big_quiet_step ((first | (go_at_call 16; exact Calls.ext (hin3.out _)))))
              refine wpQuiet_nil ?_
              clear hxc
              intro wx hwx
              obtain ⟨x, hx⟩ := hwx
              have hb := x.below
              rw [← hx] at hb
              clear hx x
              go_wp2_with fail
              go_ret
              exact ⟨rfl, hbx.trans (hb.mono hbx.size)⟩
          · have hc0' : ¬ (0 : Int) < (s.t.count : Nat) := by omega
            have hd4 : decide (0 < s.t.count) = false := by simpa using hc0
            rw [hd4, Bool.false_and]
            clear hd4 hle
            cases eg
            · replace hgf := Lib.hid hgf
              clear hgv
              go_enter Tryd.func31, Tryd.ntmps31
              go_wp2_with fail
              have hxc := @Ext.cell
              refine wp_region_ext (by kernel_rfl) (by kernel_rfl) ?_
              repeat (go_big_quiet_step ((first | (go_at_call 16; exact Calls.ext (hin3.out _)))))
              refine wpQuiet_nil ?_
              clear hxc
              intro wx hwx
              obtain ⟨x, hx⟩ := hwx
              have hb := x.below
              rw [← hx] at hb
              clear hx x
              go_wp2_with fail
              go_ret
              exact ⟨rfl, hbx.trans (hb.mono hbx.size)⟩
            · have hv0 : ev = [] := Classical.byContradiction fun h => hgv ⟨rfl, h⟩
              have hd2 : decide (ev = []) = true := by simpa using hv0
              rw [hd2] at hvb
              replace hv0 := Lib.hid hv0
              replace hgf := Lib.hid hgf
              clear hgv hd2
              go_enter Tryd.func31, Tryd.ntmps31
              go_wp2_with fail
              have hxc := @Ext.cell
              refine wp_region_ext (by kernel_rfl) (by kernel_rfl) ?_
              repeat (go_big_quiet_step ((first | (go_at_call 16; exact Calls.ext (hin3.out _)))))
              refine wpQuiet_nil ?_
              clear hxc
              intro wx hwx
              obtain ⟨x, hx⟩ := hwx
              have hb := x.below
              rw [← hx] at hb
              clear hx x
              go_wp2_with fail
              go_ret
              exact ⟨rfl, hbx.trans (hb.mono hbx.size)⟩
/-- A builder whose blocks are among F. -/
def TBIn (w : World) (F : Nat → Prop) (g : Nat) (s : TB) : Prop := ∃ vb1 vs1 vb2 vs2 vk vp, TBAt w 0 g s vb1 vs1 vb2 vs2 vk vp ∧ ∀ k, TS g vb1 vs1 vb2 vs2 vk vp k → F k
def Fx (F : Nat → Prop) (w w' : World) : Nat → Prop := fun k => F k ∨ w.heap.size ≤ k
theorem TBIn.below {w w' : World} {F : Nat → Prop} {g : Nat} {s : TB} (h : TBIn w F g s) (hb : Below w.heap.size w w') : TBIn w' F g s := by
  obtain ⟨a, b, c, d, e, f, h1, h2⟩ := h
  exact ⟨a, b, c, d, e, f, h1.below hb, h2⟩
theorem TBIn.more {w : World} {F F' : Nat → Prop} {g : Nat} {s : TB} (h : TBIn w F g s) (hF : ∀ k, F k → F' k) : TBIn w F' g s := by
  obtain ⟨a, b, c, d, e, f, h1, h2⟩ := h
  exact ⟨a, b, c, d, e, f, h1, fun k hk => hF k (h2 k hk)⟩
theorem TBIn.kept {w w' : World} {S F : Nat → Prop} {g : Nat} {s : TB} (h : TBIn w F g s) (hk : KeptBut w w' S) (hs : ∀ k, F k → ¬ S k) : TBIn w' F g s := by
  obtain ⟨a, b, c, d, e, f, h1, h2⟩ := h
  exact ⟨a, b, c, d, e, f, h1.kept hk (fun k hk => hs k (h2 k hk)), h2⟩
theorem TBIn.g {w : World} {F : Nat → Prop} {g : Nat} {s : TB} (h : TBIn w F g s) : F g := by
  obtain ⟨a, b, c, d, e, f, h1, h2⟩ := h
  exact h2 g (.inl rfl)
theorem mv_in {w w' : World} {F : Nat → Prop} {v v' : Value} (h : Mv w v v') (hv : ∀ k, v.ownBlock = some k → F k) : ∀ k, v'.ownBlock = some k → Fx F w w' k := fun k hk => (h k hk).imp (hv k) id
theorem string_info : (Tryd.prog.info? 9).map (fun i => (i.zero, i.size, i.bytes)) = some (some (.string ⟨#[]⟩), 1, 16) := by kernel_rfl
theorem new_str (w : World) (a : ByteArray) (t : TypeId) : Reads (w.alloc (.cells #[.string a] t)) (w.heap.size + 1) 1 (some ⟨w.heap.size, 0, none⟩) 1 [.string a] := by
  refine ⟨rfl, fun _ => ⟨_, rfl, by simp, fun j u hu => ?_⟩⟩
  rw [add_off, Nat.zero_add, (Blk.new w t #[.string a]).cell j]
  simpa using hu
/-- Var of two numbers, whose slice was just made. -/
theorem Var_two (b : Nat) (n m : Nat) (w : World) (h0 : w.cell? ⟨b, 0, none⟩ = some (.int .u64 (n : Nat))) (h1 : w.cell? ⟨b, 1, none⟩ = some (.int .u64 (m : Nat))) (hn : n ≤ 4611686018427387904) (hm : m ≤ 4611686018427387904) :
    Calls Tryd.prog 52 #[.slice (some ⟨b, 0, none⟩) 2 2] w fun e w' => e = .returned (.string (bs (varL [n, m]))) ∧ Below w.heap.size w w' := by
  have h := Var_any (some ⟨b, 0, none⟩) [(n : Int), (m : Int)] 2 w ⟨rfl, fun _ => ⟨_, rfl, cell_lt h0, fun j u hu => by
    rcases j with _ | _ | j
    · simp at hu
      subst hu
      exact h0
    · simp at hu
      subst hu
      exact h1
    · simp at hu⟩⟩ (fun x hx => by simp at hx; rcases hx with rfl | rfl <;> exact ⟨by omega, by omega⟩) (by simp)
  simpa [bs] using h
theorem setBB_self {cs : Array Value} {off : Nat} {s : BB} {vb vs : Value} (e0 : cs[off]? = some vb) (e1 : cs[off + 1]? = some vs) (e2 : cs[off + 2]? = some (.int .i64 s.count)) (e3 : cs[off + 3]? = some (.string (bs s.last))) : setBB cs off vb vs s = cs := by
  unfold setBB
  rw [set_self_get e0, set_self_get e1, set_self_get e2, set_self_get e3]
theorem BAdd_all {w : World} {B g t off : Nat} {cs : Array Value} {s : BB} {vb vs : Value} (h : BBAt w B g t off cs s vb vs) (k v : ByteArray) (hB : B ≤ w.heap.size) (hb : s.b.length ≤ 1099511627776) (hst : s.starts.length ≤ 1099511627776) (hcnt : s.count ≤ 1099511627776) (hla : s.last.length ≤ 1099511627776) :
    Calls Tryd.prog 32 #[.pointer (some ⟨g, off, none⟩), .string k, .string v] w fun e w' => e = .returned (.int .i64 (s.err k.data.toList v.data.toList : Nat)) ∧ ∃ x y, BBAt w' B g t off (setBB cs off x y (s.add k.data.toList v.data.toList)) (s.add k.data.toList v.data.toList) x y ∧ KeptBut w w' (BS g vb vs) ∧ Mv w vb x ∧ Mv w vs y := by
  by_cases he : s.err k.data.toList v.data.toList = 0
  · have ha : s.add k.data.toList v.data.toList = s.put k.data.toList v.data.toList := by unfold BB.add; rw [if_pos he]
    refine (BAdd_ok h k v he hB hb hst hcnt hla).mono ?_
    rintro e w' ⟨rfl, x, y, h1, h2, h3, h4⟩
    rw [ha, he]
    exact ⟨rfl, x, y, h1, h2, h3.mv, h4.mv⟩
  · have ha : s.add k.data.toList v.data.toList = s := by unfold BB.add; rw [if_neg he]
    refine (BAdd_err h k v he).mono ?_
    rintro e w' ⟨rfl, hb⟩
    rw [ha]
    refine ⟨rfl, vb, vs, ?_, KeptBut.of_below hb, Mv.refl _ _, Mv.refl _ _⟩
    rw [setBB_self h.e0 h.e1 h.e2 h.e3]
    exact h.below hb
theorem TBAt.reparts {w w' : World} {B g : Nat} {s : TB} {vb1 vs1 vb2 vs2 vk vp x : Value} {ps : List L} {a : Nat} (h : TBAt w B g s vb1 vs1 vb2 vs2 vk vp) (hk : KeptBut w w' (fun k => k = g ∨ vp.ownBlock = some k)) (ho : OwnS w' B x ps) (hm : Mv w vp x)
    (hb : Blk w' g 67 (tbC { s with parts := ps, at_ := a } vb1 vs1 vb2 vs2 vk x)) : TBAt w' B g { s with parts := ps, at_ := a } vb1 vs1 vb2 vs2 vk x := by
  have k : ∀ {e v n xs}, w.ownsRow B e 1 v n xs → e ≠ 67 → e ≠ 9 → w'.ownsRow B e 1 v n xs := fun h' he hs => own_kept h' hk (fun k hk e => by
    rcases e with e | e
    · exact own_blk_ne h' h.blk he (by rw [hk, e])
    · exact own_types h' h.op hs k hk e)
  refine ⟨h.hB, hb, k h.o1 (by decide) (by decide), k h.p1 (by decide) (by decide), k h.o2 (by decide) (by decide), k h.p2 (by decide) (by decide), own_kept h.ok hk (fun k hk e => ?_), ho, h.nb, h.ns, fun k hk e => ?_⟩
  · rcases e with e | e
    · exact own_blk_ne h.ok h.blk (by decide) (by rw [hk, e])
    · exact h.np k hk e
  · rcases hm k e with e1 | e1
    · exact h.np k hk e1
    · have := (own_lt h.ok k hk).2
      omega
theorem parts_facts {w w2 : World} {B g n cp : Nat} {s : TB} {vb1 vs1 vb2 vs2 vk : Value} {Ap : Option Addr} {o : Obj} (h : TBAt w B g s vb1 vs1 vb2 vs2 vk (.slice Ap n cp)) (hg : (w.alloc o).grownBy w2 (Value.slice Ap n cp).ownBlock) :
    KeptBut w w2 (fun k => (Value.slice Ap n cp).ownBlock = some k) ∧ Blk w2 g 67 (tbC s vb1 vs1 vb2 vs2 vk (.slice Ap n cp)) ∧ w2.cell? ⟨g, 18, none⟩ = some (.slice Ap n cp) ∧ w2.frozen? ⟨g, 18, none⟩ = false ∧ w2.cell? ⟨g, 19, none⟩ = some (.int .i64 (s.at_ : Nat)) ∧ w2.frozen? ⟨g, 19, none⟩ = false ∧ g < w2.heap.size := by
  have hk2 : KeptBut w w2 (fun k => (Value.slice Ap n cp).ownBlock = some k) := (KeptBut.of_below ((Below.refl _ _).alloc (Nat.le_refl _) _)).then_grown hg (fun k e => e)
  have hXw := h.blk.keptB hk2 (own_blk_ne h.op h.blk (by decide))
  exact ⟨hk2, hXw, hXw.cell 18, hXw.frozen 18, hXw.cell 19, hXw.frozen 19, hXw.lt⟩
set_option maxRecDepth 100000 in
set_option maxHeartbeats 4000000 in
theorem ends_any {w : World} {F : Nat → Prop} {g : Nat} {s : TB} (h : TBIn w F g s) (hd1 : s.data.b.length ≤ 1048576) (hd2 : s.data.starts.length ≤ 1048576) (hd3 : ∀ n ∈ s.data.starts, n < 4294967296) (hd4 : s.data.count ≤ 1048576)
    (hi1 : s.index.b.length ≤ 274877906944) (hi2 : s.index.starts.length ≤ 1073741824) (hi3 : s.index.count ≤ 1073741824) (hi4 : s.index.last.length ≤ 1048576) (hat : s.at_ ≤ 4398046511104) (hpl : s.parts.length ≤ 1073741824) :
    Calls Tryd.prog 26 #[.pointer (some ⟨g, 0, none⟩)] w fun e w' => e = .returned (.string (bs s.data.out)) ∧ TBIn w' (Fx F w w') g s.ends ∧ KeptBut w w' F := by
  obtain ⟨vb1, vs1, vb2, vs2, vk, vp, hT, hF⟩ := h
  obtain ⟨i0, hi0, hz0, hz1, hz2⟩ := info_parts string_info
  have hfin := Lib.hid (BFinish_any hT.data (Nat.zero_le _) (by omega) (by omega) hd3 (by omega))
  have hol : s.data.out.length ≤ 5242888 := by rw [BB.out_len]; unfold BB.size; omega
  have hos : (bs s.data.out).size = s.data.out.length := bs_size _
  have hgl := hT.blk.lt
  go_enter Tryd.func26, Tryd.ntmps26
  go_wp2_with fail
  refine hfin.out.mono ?_
  rintro e w1 ⟨rfl, hD1, hk1⟩
  have hT1 := hT.of_data hD1 hk1 (Mv.nil _ _) (Mv.nil _ _)
  have hF1 : KeptBut w w1 F := hk1.mono (fun k _ e => hF k (e.elim .inl (fun e => e.elim (fun e => .inr (.inl e)) (fun e => .inr (.inr (.inl e))))))
  have hzk1 := hk1.size
  have hl1 := hT1.blk.lt
  have c16 : w1.cell? ⟨g, 16, none⟩ = some (.string (bs s.last)) := hT1.blk.cell 16
  have c19 : w1.cell? ⟨g, 19, none⟩ = some (.int .i64 (s.at_ : Nat)) := hT1.blk.cell 19
  have hw1 : IntKind.u64.wrap ((s.at_ : Nat) : Int) = (s.at_ : Nat) := by rw [IntKind.wrap_u64]; omega
  have hw2 : IntKind.u64.wrap ((s.data.out.length : Nat) : Int) = (s.data.out.length : Nat) := by rw [IntKind.wrap_u64]; omega
  replace hT1 := Lib.hid hT1
  replace hD1 := Lib.hid hD1
  replace hF1 := Lib.hid hF1
  go_wp2_with fail
  have hxc := @Ext.cell
  have hxf := @Ext.frozen
  refine wp_hide (fun Q0 hQ0 => ?_)
  refine wp_region_line (fun w' => ∃ x : Ext _, w' = x.w) [some false, some false, some false, some false, some false, some false, some false, some false, some false, some false, some false, some false, some false, some false, some false, none, none, none] 2 (by kernel_rfl) (by kernel_rfl) ⟨⟨_, (Below.refl _ _).drew⟩, rfl⟩ ?_
  simp only [earlyL, tailL]
  repeat (first | ((with_reducible refine wpMix_p ?_); go_big_quiet_step (fail); refine wpQuiet_nil ?_) | ((with_reducible refine wpMix_e ?_); go_big_quiet_step ((first | fail)); refine wpQuiet_nil ?_))
  refine wpMix_nil ?_
  clear hxc hxf
  intro wx hwx
  obtain ⟨x, hx⟩ := hwx
  have hb := x.below
  rw [← hx] at hb
  clear hx x
  have hbs := hb.size
  have hTx := hT1.out.below hb
  have hBn := Blk.new wx 24 #[.int .u64 (s.at_ : Nat), .int .u64 (s.data.out.length : Nat)]
  have hba : Below w1.heap.size w1 (wx.alloc (.cells #[.int .u64 (s.at_ : Nat), .int .u64 (s.data.out.length : Nat)] 24)) := hb.alloc hbs _
  have hvar := Lib.hid (Var_two wx.heap.size s.at_ s.data.out.length (wx.alloc (.cells #[.int .u64 (s.at_ : Nat), .int .u64 (s.data.out.length : Nat)] 24)) (hBn.cell 0) (hBn.cell 1) (by omega) (by omega))
  refine wpTail_step ?_
  intro Q1 hQ1
  go_wp2_with fail
  refine hQ1 _ _ rfl (fun _ => ⟨⟨_, hba⟩, rfl⟩) ?_
  clear hQ1 Q1
  refine wpTail_step ?_
  intro Q1 hQ1
  go_wp2_with fail
  refine hvar.out.mono ?_
  rintro e w3 ⟨rfl, hb3⟩
  have hb13 := hba.trans (hb3.mono hba.size)
  go_wp2_with fail
  refine hQ1 _ _ rfl (fun _ => ⟨⟨_, hb13⟩, rfl⟩) ?_
  clear hQ1 Q1
  have hT3 := hT1.out.below hb13
  have hadd := BAdd_all hT3.index (bs s.last) (bs (varL [s.at_, s.data.out.length])) (Nat.zero_le _) (by show s.index.b.length ≤ _; omega) (by show s.index.starts.length ≤ _; omega) (by show s.index.count ≤ _; omega) (by show s.index.last.length ≤ _; omega)
  rw [bs_data, bs_data] at hadd
  replace hadd := Lib.hid hadd
  replace hT3 := Lib.hid hT3
  refine wpTail_step ?_
  intro Q1 hQ1
  go_wp2_with fail
  refine hadd.out.mono ?_
  rintro e w4 ⟨rfl, x2, y2, hI4, hk4, hx2, hy2⟩
  go_wp2_with fail
  refine hQ1 _ _ rfl (fun h => absurd h (by decide)) ?_
  clear hQ1 Q1
  refine wpTail_nil ?_
  refine hQ0 _ _ ?_
  clear hQ0 Q0
  have hT4 := hT3.out.of_index hI4 hk4 hx2 hy2
  have hz13 := hb13.size
  have hF4 : KeptBut w w4 F := (hF1.out.then_below hb13).trans hk4 (fun k _ e => hF k (e.elim .inl (fun e => e.elim (fun e => .inr (.inr (.inr (.inl e)))) (fun e => .inr (.inr (.inr (.inr (.inl e))))))))
  obtain ⟨Ap, cp, rfl⟩ := hT.op.form
  have c18 : w4.cell? ⟨g, 18, none⟩ = some (.slice Ap s.parts.length cp) := hT4.blk.cell 18
  have hl4 := hT4.blk.lt
  have hownx := World.ownsRow.alloc hT4.op (.cells #[.string (bs s.data.out)] 9)
  have hrd := new_str w4 (bs s.data.out) 9
  have hone : ∀ u ∈ [Value.string (bs s.data.out)], u.oneCell' = true := by
    intro u hu
    simp at hu
    subst hu
    rfl
  replace hone := Lib.hid hone
  replace hF4 := Lib.hid hF4
  replace hI4 := Lib.hid hI4
  clear hadd hvar
  go_wp2_with (at_builtin; refine wpList_append_any _ rfl (.tmp 30) (.tmp 32) 65 rfl 0 9 i0 (.string ⟨#[]⟩) 1 16 Tryd.underlying65 hi0 hz0 hz1 hz2 rfl (by omega) (.slice Ap s.parts.length cp) s.parts.length (s.parts.map strV) rfl hownx (w4.heap.size + 1) (some ⟨w4.heap.size, 0, none⟩) 1 1 [.string (bs s.data.out)] rfl hrd hone.out (by unfold maxLen; omega) (by omega) (Nat.zero_le _) ?_; intro v5 w5 hown5 hgr5 hat5; have ho5 := OwnS.of_law hown5; obtain ⟨A5, c5, e5⟩ := ho5.form; rw [List.length_append, List.length_singleton] at e5; subst e5; obtain ⟨hk5, hB5, y18, f18, y19, f19, l5⟩ := parts_facts hT4 hgr5)
  have hmv : Mv w4 (.slice Ap s.parts.length cp) (.slice A5 (s.parts.length + 1) c5) := by
    intro k hk
    rcases hat5 with e | e
    · exact .inl (by rw [← e]; exact hk)
    · have e6 := Option.some.inj (hk.symm.trans e)
      rw [World.size_alloc] at e6
      exact .inr (by omega)
  have hBf := (hB5.set_ 18 (.slice A5 (s.parts.length + 1) c5)).set_ 19 (.int .i64 ((s.at_ : Nat) + (s.data.out.length : Nat)))
  have hof := own_set (own_set ho5 hB5 (by decide) (o := 18) (u := .slice A5 (s.parts.length + 1) c5)) (hB5.set_ 18 (.slice A5 (s.parts.length + 1) c5)) (by decide) (o := 19) (u := .int .i64 ((s.at_ : Nat) + (s.data.out.length : Nat)))
  have hkf : KeptBut w4 ((w5.setCell ⟨g, 18, none⟩ (.slice A5 (s.parts.length + 1) c5)).setCell ⟨g, 19, none⟩ (.int .i64 ((s.at_ : Nat) + (s.data.out.length : Nat)))) (fun k => k = g ∨ (Value.slice Ap s.parts.length cp).ownBlock = some k) := ((hk5.mono (fun k _ e => .inr e)).then_set (.inl rfl)).then_set (.inl rfl)
  have hTf := hT4.reparts (a := s.at_ + s.data.out.length) hkf hof hmv hBf
  have hFf := hF4.out.trans hkf (fun k _ e => hF k (e.elim .inl (fun e => .inr (.inr (.inr (.inr (.inr (.inr e))))))))
  have hin : TBIn ((w5.setCell ⟨g, 18, none⟩ (.slice A5 (s.parts.length + 1) c5)).setCell ⟨g, 19, none⟩ (.int .i64 ((s.at_ : Nat) + (s.data.out.length : Nat)))) (Fx F w ((w5.setCell ⟨g, 18, none⟩ (.slice A5 (s.parts.length + 1) c5)).setCell ⟨g, 19, none⟩ (.int .i64 ((s.at_ : Nat) + (s.data.out.length : Nat))))) g s.ends := by
    refine ⟨_, _, _, _, _, _, hTf, fun k hk => ?_⟩
    have hsz3 : w.heap.size ≤ w3.heap.size := by omega
    have hsz4 := hk4.size
    rcases hk with e | e | e | e | e | e | e
    · exact .inl (hF k (.inl e))
    · cases e
    · cases e
    · rcases hx2 k e with e1 | e1
      · exact .inl (hF k (.inr (.inr (.inr (.inl e1)))))
      · exact .inr (by omega)
    · rcases hy2 k e with e1 | e1
      · exact .inl (hF k (.inr (.inr (.inr (.inr (.inl e1))))))
      · exact .inr (by omega)
    · exact .inl (hF k (.inr (.inr (.inr (.inr (.inr (.inl e)))))))
    · rcases hmv k e with e1 | e1
      · exact .inl (hF k (.inr (.inr (.inr (.inr (.inr (.inr e1)))))))
      · exact .inr (by omega)
  replace hin := Lib.hid hin
  replace hFf := Lib.hid hFf
  clear hown5 hgr5 hat5 hownx hrd hTf hkf hof hBf hB5 hk5 ho5
  go_wp2_with fail
  go_ret
  exact ⟨rfl, hin.out, hFf.out⟩
end Go.Proofs.YtfnlponoakhegaaDoor
