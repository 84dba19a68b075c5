/- Both builders answer alike. A law's row, whatever its parameters: what a walk that leaves old memory as it was gives, and how the row closes. A change's row whose call may read package variables: what the world is shaped like, too. Chapter 12's rows: what globals say; a row of entries that came in, opened. A row of acts that came in, opened. -/
import Derived.Test.YtfnlponoakhegaaDoorB24
import Derived.Test.YtfnlponoakhegaaDoorRNJ
import Derived.Test.YtfnlponoakhegaaDoorRN2J
import Derived.Test.YtfnlponoakhegaaDoorRQJ
import Derived.Test.YtfnlponoakhegaaDoorRows
import Derived.WalkKit
import Derived.ProofKit
import Derived.OpenShut
import Derived.JoinedCond
import Derived.Carry
import Derived.Lib.SmallJoins
import Derived.Deep.Slices
import Derived.Deep.Fields
import Derived.ChangeSame
import Derived.Handed
import Derived.HandedShaped
import Derived.Test.YtfnlponoakhegaaDoorB22
import Derived.LaidMore
import Derived.Lay
import Derived.SevenTiedAt
import Derived.Stop.Joined
namespace Go.Proofs.YtfnlponoakhegaaDoor
open Go.RowKit
set_option linter.unusedVariables false
set_option linter.unusedSimpArgs false
/-- The builders behind i acts. -/
def LSt (w0 wr : World) (n : Nat) (lv : Int) (gb gd i : Nat) : Prop := ∃ es own v, (∀ e ∈ es, e.seq < 18446744073709551616) ∧ es.length ≤ i ∧ own = (runX n lv es).2.2 ∧ (Duo w0 wr n lv gb gd es own v ∨ DuoD w0 wr n lv gb gd own v)
section
variable {w0 wr wq w' : World} {n : Nat} {lv : Int} {gb gd i : Nat}
theorem LSt.bel (h : LSt w0 wr n lv gb gd i) : Below w0.heap.size w0 wr := by
  obtain ⟨es, own, v, h1, h2, h3, h4 | h4⟩ := h
  · exact h4.bel
  · exact h4.bel
theorem LSt.below (h : LSt w0 wr n lv gb gd i) (hb : Below wr.heap.size wr w') : LSt w0 w' n lv gb gd i := by
  obtain ⟨es, own, v, h1, h2, h3, h4 | h4⟩ := h
  · exact ⟨es, own, v, h1, h2, h3, .inl (h4.below hb)⟩
  · exact ⟨es, own, v, h1, h2, h3, .inr (h4.below hb)⟩
theorem LSt.next (h : LSt w0 wr n lv gb gd i) : LSt w0 wr n lv gb gd (i + 1) := by
  obtain ⟨es, own, v, h1, h2, h3⟩ := h
  exact ⟨es, own, v, h1, by omega, h3⟩
theorem LSt.add (h : LSt w0 wr n lv gb gd i) (hq : Below wr.heap.size wr wq) (hG : Gl w0) (hi : i < 1000) (e : Ent) (hk : e.key.length ≤ 1048576) (hv : e.value.length ≤ 1048576) (hsq : e.seq < 18446744073709551616) :
    ∃ (s : L) (k : Nat), Calls Tryd.prog 10 #[.pointer (some ⟨gb, 0, none⟩), .agg (entC e)] wq fun r w' => r = .returned (.tuple #[.string (bs s), .int .i64 (k : Nat)]) ∧ (∀ k, wr.heap.size ≤ k → k < wq.heap.size → w'.heap[k]? = wq.heap[k]?) ∧ wq.heap.size ≤ w'.heap.size ∧
      Calls Tryd.prog 20 #[.pointer (some ⟨gd, 0, none⟩), .agg (entC e)] w' fun r w'' => r = .returned (.tuple #[.string (bs s), .int .i64 (k : Nat)]) ∧ LSt w0 w'' n lv gb gd (i + 1) := by
  obtain ⟨es, own, v, h1, h2, h3, h4 | h4⟩ := h
  · have hlen := (runX_I n lv es).len
    rw [← h3] at hlen
    obtain ⟨x1, x2, x3⟩ := runX_add n lv es e h1 hsq
    obtain ⟨_, hsm⟩ := runX_K n lv es h1
    rw [← h3] at x1 x2 x3 hsm
    have hes : ∀ x ∈ es ++ [e], x.seq < 18446744073709551616 := fun x hx => by
      rcases List.mem_append.1 hx with hx | hx
      · exact h1 x hx
      · rw [List.mem_singleton.1 hx]; exact hsq
    refine ⟨((runX n lv es).1.add e).2, (runX n lv es).1.err e, (h4.add hq hG (by omega) e hsq).mono ?_⟩
    rintro r w' ⟨rfl, hD, hsz, hkp⟩
    obtain ⟨hdoc, hnb⟩ := hD.doc_
    refine ⟨rfl, hkp, hsz, ?_⟩
    · by_cases he : (runX n lv es).1.err e = 0
      · obtain ⟨y1, y2⟩ := x2 he
        rw [y1, he]
        refine (DAdd_ok hdoc (by omega) hsm e (x1.symm.trans he)).mono ?_
        rintro r w'' ⟨rfl, v', hd', hfr, hk'⟩
        exact ⟨rfl, es ++ [e], own ++ [e], v', hes, by simp; omega, y2.symm, .inl (hD.took hd' hfr hk')⟩
      · obtain ⟨y1, y2⟩ := x3 he
        rw [y1, x1]
        refine (DAdd_bad hdoc (by omega) e hk hv hsq (fun q => he (x1.trans q))).mono ?_
        rintro r w'' ⟨rfl, hb⟩
        exact ⟨rfl, es ++ [e], own, v, hes, by simp; omega, y2.symm, .inl (hD.below hb)⟩
  · have hlen := (runX_I n lv es).len
    rw [← h3] at hlen
    have h4q := h4.below hq
    refine ⟨[], 9, (h4q.1.add e).mono ?_⟩
    rintro r w' ⟨rfl, hb⟩
    have h4' := h4q.below hb
    refine ⟨rfl, fun k _ k2 => hb.block k k2, hb.size, ?_⟩
    have hd := DAdd_bad h4'.2.1 (by omega) e hk hv hsq (show docErr true own e ≠ 0 by unfold docErr; simp)
    have h9 : docErr true own e = 9 := rfl
    rw [h9] at hd
    refine hd.mono ?_
    rintro r w'' ⟨rfl, hb2⟩
    exact ⟨rfl, es, own, v, h1, by omega, h3, .inr (h4'.below hb2)⟩
theorem LSt.fin (h : LSt w0 wr n lv gb gd i) (hG : Gl w0) (hi : i < 1000) :
    ∃ (s : L) (t : TI) (k : Nat), Calls Tryd.prog 9 #[.pointer (some ⟨gb, 0, none⟩)] wr fun r w' => r = .returned (.tuple #[.string (bs s), .agg (tiC t), .int .i64 (k : Nat)]) ∧ ∀ w'', Below w'.heap.size w' w'' →
      Calls Tryd.prog 21 #[.pointer (some ⟨gd, 0, none⟩)] w'' fun r w3 => r = .returned (.tuple #[.string (bs s), .agg (tiC t), .int .i64 (k : Nat)]) ∧ LSt w0 w3 n lv gb gd (i + 1) ∧ ∀ k, w'.heap.size ≤ k → k < w''.heap.size → w3.heap[k]? = w''.heap[k]? := by
  obtain ⟨es, own, v, h1, h2, h3, h4 | h4⟩ := h
  · have hlen := (runX_I n lv es).len
    rw [← h3] at hlen
    obtain ⟨_, hsm⟩ := runX_K n lv es h1
    rw [← h3] at hsm
    by_cases hne : own = []
    · refine ⟨[], ⟨0, 0, 0, 0, [], [], 0, 0⟩, 9, (h4.fin0 (by rw [← h3]; exact hne)).mono ?_⟩
      rintro r w' ⟨rfl, hD⟩
      refine ⟨rfl, fun w'' hb => ?_⟩
      have hD2 := hD.below hb
      refine (DFin_err hD2.doc_.1 (.inr hne)).mono ?_
      rintro r w3 ⟨rfl, hb3⟩
      exact ⟨rfl, ⟨es, own, v, h1, by omega, h3, .inl (hD2.below hb3)⟩, fun k _ k2 => hb3.block k k2⟩
    · obtain ⟨y1, y2⟩ := runX_fin n lv es h1 (by rw [← h3]; exact hne) (by omega)
      rw [← h3] at y1 y2
      refine ⟨(runX n lv es).1.outL, finT (runX n lv es), 0, (h4.finD hG (by omega) (by rw [← h3]; exact hne)).mono ?_⟩
      rintro r w' ⟨rfl, hDn, hd, hnb, hgg, hbl⟩
      refine ⟨rfl, fun w'' hb => ?_⟩
      have hgl := hd.blk.lt
      rw [y1, y2]
      refine (DFin_ok (hd.below hb) hne (by omega) hsm).mono ?_
      rintro r w3 ⟨rfl, hd3, hk3⟩
      have hb2 := hbl.trans (hb.mono hbl.size)
      exact ⟨rfl, ⟨es, own, v, h1, by omega, h3, .inr ⟨(hDn.below hb).kept hk3 hgg, hd3, hk3.below_of hb2 (fun k q => by rw [q]; exact hd.hB)⟩⟩, fun k k1 k2 => hk3.block k k2 (fun q => by omega)⟩
  · refine ⟨[], ⟨0, 0, 0, 0, [], [], 0, 0⟩, 9, h4.1.fin.mono ?_⟩
    rintro r w' ⟨rfl, hb⟩
    refine ⟨rfl, fun w'' hb2 => ?_⟩
    have h4' := (h4.below hb).below hb2
    refine (DFin_err h4'.2.1 (.inl rfl)).mono ?_
    rintro r w3 ⟨rfl, hb3⟩
    exact ⟨rfl, ⟨es, own, v, h1, by omega, h3, .inr (h4'.below hb3)⟩, fun k _ k2 => hb3.block k k2⟩
end
end Go.Proofs.YtfnlponoakhegaaDoor
namespace Go.Proofs.YtfnlponoakhegaaDoor
open Go.ChangeShapes Go.WideShapes Go.ChangeAt Go.RowKit Go.Joins
set_option linter.unusedVariables false
theorem Trydown : ownKnob Tryd.prog.godebug = none := by kernel_rfl
theorem Trydlaid : laidOutB Tryd.prog = true := by kernel_rfl
section
variable {H : Type} {enc : TypeId × Value → H} {P : Program}
theorem trodAll_below (hl : laidOutB P = true) {W W' : World} (hb : Below W.heap.size W W') : ∀ (ts : List TypeId) (vs : List Value) (ds : List (DataW H)) (ps : List MemPlace),
    (∀ t ∈ ts, P.readableRec t = true ∧ t < P.types.size) → DataW.TrodAll enc P W 0 (fun _ => true) true ts vs ds ps → (∀ x ∈ ps, x.block < W.heap.size) →
    DataW.TrodAll enc P W' 0 (fun b => decide (b < W.heap.size)) true ts vs ds ps := by
  intro ts
  induction ts with
  | nil =>
    intro vs ds ps _ h _
    cases vs <;> cases ds <;> first | exact h | exact h.elim
  | cons t ts ih =>
    intro vs ds ps ht h hx
    cases vs with
    | nil => exact h.elim
    | cons v vs =>
      cases ds with
      | nil => exact h.elim
      | cons d ds =>
        obtain ⟨p, q, hd, hr, rfl⟩ := h
        have h0 := ht t (List.mem_cons_self ..)
        exact ⟨p, q, Below.trod hl h0.1 h0.2 hd hb (fun x hm => hx x (List.mem_append_left _ hm)), ih vs ds q (fun t' hm => ht t' (List.mem_cons_of_mem _ hm)) hr (fun x hm => hx x (List.mem_append_right _ hm)), rfl⟩
/-- A law that returned true over a world that has only grown. -/
theorem law_post (hl : laidOutB P = true) {f : Func} {s : ChangeSpec} {W W' : World} {args : Array Value} {ds gs : List (DataW H)} {before : List MemPlace} {tb : TypeId}
    (hbool : P.underlying tb = some .bool)
    (hW : DataW.Whole enc P f.params.toList s.vars false W args.toList ds gs before) (hv : s.vars = []) (hr : f.resultTypes = #[tb])
    (hread0 : (f.params.toList.all fun t => P.readableRec t && decide (t < P.types.size)) = true)
    (hfn : s.fn H (ds ++ gs) = { results := [.lit (.bool true)], args := ds }) (hb : Below W.heap.size W W') :
    s.post enc P f false true false false W args (.bool true) W' := by
  have hread : ∀ t ∈ f.params.toList, P.readableRec t = true ∧ t < P.types.size := fun t ht => by simpa using List.all_eq_true.1 hread0 t ht
  have hlt := hW.lt
  obtain ⟨p, q, hA, hV, hpq, hz, hnd⟩ := hW
  rw [hv] at hV
  cases gs with
  | cons _ _ => exact hV.elim
  | nil =>
    have hq : q = [] := hV
    subst hq
    refine ⟨ds, [], before, [], p, [], ⟨p, [], hA, by rw [hv]; exact rfl, hpq, hz, hnd⟩, ?_, ?_, ?_, ?_, fun h => by cases h⟩
    · rw [hfn, hr]
      exact trodAll_mk1 (shut_bool hbool true)
    · rw [hfn]
      exact trodAll_below hl hb _ _ _ _ hread hA (fun x hx => by simpa using hlt x (by rw [hpq]; exact List.mem_append_left _ hx))
    · rw [hfn, hv]; exact rfl
    · exact hb.frame _
end
end Go.Proofs.YtfnlponoakhegaaDoor
namespace Go.Proofs.YtfnlponoakhegaaDoor
open Go
set_option linter.unusedVariables false
theorem rih_and_shaped {H : Type} {enc : TypeId × Value → H} {a : Assume} {C : Checked} {os : Os} {f : FuncId} {fn : Func} {s : ChangeSpec} {conds : List PathCond} {apart fresh handsOn again : Bool} {X : World → Array Value → Prop}
    (hX : ∀ (w w' : World) (args : Array Value), w.heap = w'.heap → X w args → X w' args)
    (own : ownKnob C.prog.godebug = none) (started : os.Started) (noInit : C.prog.inits.idxOf? f = none) (hfn : C.prog.funcs[f]? = some fn)
    (witness : ∃ (w : World) (tape : Tape) (i : Input), w.os = os ∧ (w.forCall tape i).Shaped C.prog ∧ i.vars = [] ∧ Input.okWide C.prog (w.forCall tape i) .any w.heap.size f i ∧
      ((s.pre enc C.prog fn conds apart (w.forCall tape i).memory i.args ∧ X (w.forCall tape i).memory i.args) ∧ sizedMet enc C.prog fn (OpenSpec.ofChange s) apart (w.forCall tape i).memory i.args) ∧ a.holds C.prog (lone (Frame.enter C.prog f i.args .normal) [] (w.forCall tape i)))
    (contract : ∀ (W : World) (base : Nat) (args : Array Value) (ds gs : List (DataW H)) (before : List MemPlace),
      (∀ (j : Nat) t v, fn.params[j]? = some t → args[j]? = some v → Value.okWide C.prog W .any base t v) →
      DataW.Whole enc C.prog fn.params.toList s.vars apart W args.toList ds gs before →
      conds.all (PathCond.test C.prog ⟨fn.params.toList, ds, s.plain.varTypes C.prog, gs⟩) = true →
      (DataW.weightsEach C.prog (fn.params.toList ++ s.plain.varTypes C.prog) (ds ++ gs)).all (· ≤ reachBytes) = true → X W args →
      W.ShapedOpen C.prog →
      a.holds C.prog (lone (Frame.enter C.prog f args .normal) [] W) →
      Calls C.prog f args W fun e W' => ∃ v, e = .returned v ∧ s.post enc C.prog fn apart fresh handsOn again W args v W') :
    ReturnsInHanded a C os f .any (fun w args => (s.pre enc C.prog fn conds apart w args ∧ X w args) ∧ sizedMet enc C.prog fn (OpenSpec.ofChange s) apart w args) (s.post enc C.prog fn apart fresh handsOn again) := by
  refine returnsInHanded_of_calls own started noInit witness ?_
  intro w tape i _ hsh _ hok hpre hholds
  obtain ⟨_, _, _, fn', hfn', _, _, _, _, hval⟩ := hok
  obtain rfl : fn' = fn := Option.some.inj (hfn'.symm.trans hfn)
  obtain ⟨⟨⟨ds, gs, before, hw, hc⟩, hx⟩, hz⟩ := hpre
  refine (contract (w.forCall tape i) w.heap.size i.args ds gs before hval (DataW.Whole.of_heap (w' := w.forCall tape i) (by rfl) hw) hc (hz.weights hw) (hX _ _ _ (by rfl) hx) hsh hholds).mono fun e W' ⟨v, he, hp⟩ => ?_
  subst he
  exact ChangeSpec.post_blind hp
end Go.Proofs.YtfnlponoakhegaaDoor
namespace Go.Proofs.YtfnlponoakhegaaDoor
open Go.ChangeShapes Go.WideShapes Go.ChangeAt Go.RowKit Go.Joins Go.Deep
open Go.ChangeMaps (open_string)
set_option linter.unusedVariables false
set_option linter.unusedSimpArgs false
theorem crcT_lits : (List.range 16).map (fun i => (DataW.lit (.int .u32 (crcT i : Nat)) : DataW Unit)) = match (Rows.laid_copyhold_cell_table : DataW Unit) with
  | .agg l => l
  | _ => [] := rfl
set_option maxRecDepth 100000 in
theorem tab_of {W : World} (h : laidMetH Tryd.prog Rows.tableKnownRow.laid W) : TabAt W := by
  rw [MakeChecks.laidMetH_plain _ _ _ (by kernel_rfl)] at h
  obtain ⟨ps, ⟨g, t, cs, fuel, p, q, hg, ht, hv, hd, _, _⟩, _, _⟩ := h
  obtain rfl := Option.some.inj ((show Tryd.prog.globalNamed "copyhold/cell.table" = some 0 by kernel_rfl).symm.trans hg)
  obtain rfl := Option.some.inj ((show (Tryd.prog.globals[0]?).map (·.type) = some 112 by kernel_rfl).symm.trans ht)
  obtain ⟨xs, m, _, ex, _, hl, hel⟩ := DataW.trod_array Tryd.underlying112 hd
  intro r hr
  have c5 : Tryd.prog.cellsOf 72 = 1 := by kernel_rfl
  have hE := hel r hr
  rw [c5, Nat.mul_one, List.getElem?_eq_getElem (by omega)] at hE
  obtain ⟨z, e1, e2, _⟩ := DataW.trod_int Tryd.underlying72 hE
  have e3 : (xs.map (·.1)) = (List.range 16).map (fun i => (DataW.lit (.int .u32 (crcT i : Nat)) : DataW Unit)) := (DataW.agg.inj (Prod.mk.inj ex).1).symm.trans crcT_lits.symm
  have e4 : (xs.map (·.1))[r]? = ((List.range 16).map (fun i => (DataW.lit (.int .u32 (crcT i : Nat)) : DataW Unit)))[r]? := by rw [e3]
  rw [List.getElem?_map, List.getElem?_map, List.getElem?_eq_getElem (by omega : r < xs.length), List.getElem?_range hr, e2] at e4
  have hz : z = (crcT r : Nat) := by simpa using e4
  rw [World.var?_cell hg hv r, ← hz]
  have : cs.toList[r]? = some (.int .u32 z) := by
    have h0 : ((cs.toList.drop r).take 1)[0]? = some (.int .u32 z) := by rw [e1]; rfl
    simpa using h0
  simpa using this
theorem gl_of {W : World} (h : laidMetH Tryd.prog Rows.tableKnownRow.laid W) (hsh : W.ShapedOpen Tryd.prog) : Gl W :=
  ⟨tab_of h, Go.Proofs.cell_of_shapedOpen_int (zero := #[.int .i64 0]) (t := 3) hsh (of_decide_eq_true (by kernel_rfl)) (by kernel_rfl) rfl (by kernel_rfl) (by kernel_rfl) Tryd.underlying3⟩
section
variable {H : Type} {enc : TypeId × Value → H} {P : Program} {w : World} {base : Nat} {spare : Nat → Bool} {held : Bool}
theorem open_slice_fields {t e : TypeId} {fs : Array Field} {fuel : Nat} {cs : List Value} {x : DataW H × List MemPlace} (ht : P.underlying t = some (.slice e)) (he : P.underlying e = some (.struct fs))
    (hone : oneCellFields P fs = true) (hC : P.cellsOf e = fs.size) (h : DataW.trod enc P w base spare held fuel t cs = some x) :
    (cs = [.slice none 0 0] ∧ x = (.nil, [])) ∨
    ∃ (a : Addr) (len cap m : Nat) (D : Nat → DataW H) (Pl : Nat → List MemPlace), cs = [.slice (some a) len cap] ∧ base ≤ a.block ∧ len ≤ cap ∧ cap ≤ maxLen ∧ m = (if spare a.block then cap else len) ∧
      x = (.slice ((List.range len).map D) ((List.range (m - len)).map fun j => D (len + j)), MemPlace.row a (m * fs.size) ++ (List.range m).flatMap Pl) ∧
      ∀ i, i < m → ∃ (ys : List (DataW H × List MemPlace)) (n : Nat), D i = .agg (ys.map (·.1)) ∧ Pl i = ys.flatMap (·.2) ∧ ys.length = fs.size ∧
        ∀ (j : Nat) (f : Field), fs[j]? = some f → ∃ (v : Value) (y : DataW H × List MemPlace), w.cell? (a.add (i * fs.size + j)) = some v ∧ ys[j]? = some y ∧ DataW.trod enc P w base spare held n f.type [v] = some y := by
  rcases open_slice ht h with h0 | ⟨a, len, cap, m, n, D, Pl, hcs, hb, hl, hm, hmm, hx, hi⟩
  · exact .inl h0
  · refine .inr ⟨a, len, cap, m, D, Pl, hcs, hb, hl, hm, hmm, by rw [hC] at hx; exact hx, fun i him => ?_⟩
    obtain ⟨cs', hc, ht'⟩ := hi i him
    rw [hC] at hc
    obtain ⟨ys, n', hn', hy, hlen, hyl, hf⟩ := DataW.trod_struct he ht'
    obtain ⟨_, hcl, hat⟩ := World.cells?_some hc
    simp only [Prod.mk.injEq] at hy
    refine ⟨ys, n', hy.1, hy.2, hyl, fun j f hj => ?_⟩
    obtain ⟨ho, hk⟩ := hone_of hone j f hj
    have hjl : j < fs.size := (Array.getElem?_eq_some_iff.1 hj).1
    have hcell := hat j hjl
    have hv : cs'[j]? = some (cs'[j]'(by omega)) := List.getElem?_eq_getElem (by omega)
    have h1 := hf j f hj
    rw [ho, hk] at h1
    have hone' : (cs'.drop j).take 1 = [cs'[j]'(by omega)] := by
      rw [List.drop_eq_getElem_cons (by omega)]
      rfl
    rw [hone'] at h1
    have hys : ys[j]? = some (ys[j]'(by omega)) := List.getElem?_eq_getElem (by omega)
    refine ⟨_, _, ?_, hys, h1.trans hys⟩
    rw [← Go.Deep.add_add, hcell, hv]
end
theorem plain_of_cell {w : World} {a : Addr} {v : Value} (h : w.cell? a = some v) : a = ⟨a.block, a.off, none⟩ := by
  obtain ⟨b, o, s⟩ := a
  cases s with
  | none => rfl
  | some s =>
    unfold World.cell? at h
    split at h <;> simp at h
theorem add_plain (b o n : Nat) : (⟨b, o, none⟩ : Addr).add n = ⟨b, o + n, none⟩ := by unfold Addr.add; split <;> simp_all
theorem list_of {T : Type} {P : Nat → T → Prop} : ∀ (n : Nat), (∀ i, i < n → ∃ x, P i x) → ∃ l : List T, l.length = n ∧ ∀ i x, l[i]? = some x → P i x
  | 0, _ => ⟨[], rfl, fun i x h => by simp at h⟩
  | n + 1, h => by
    obtain ⟨l, hl, hp⟩ := list_of n (fun i hi => h i (by omega))
    obtain ⟨x, hx⟩ := h n (by omega)
    refine ⟨l ++ [x], by simp [hl], fun i y hy => ?_⟩
    by_cases hi : i < l.length
    · rw [List.getElem?_append_left hi] at hy
      exact hp i y hy
    · rw [List.getElem?_append_right (by omega)] at hy
      have : i - l.length = 0 := by
        rcases Nat.eq_zero_or_pos (i - l.length) with h0 | h0
        · exact h0
        · rw [List.getElem?_eq_none (by simp; omega)] at hy; cases hy
      rw [this] at hy
      simp at hy
      subst hy
      have : i = n := by omega
      subst this
      exact hx
set_option maxRecDepth 100000 in
set_option maxHeartbeats 1000000 in
theorem ents_open {H : Type} {enc : TypeId × Value → H} {W : World} {base : Nat} {v : Value} {d : DataW H} {p : List MemPlace}
    (hv : Value.okWide Tryd.prog W .any base 41 v) (h : DataW.Trod enc Tryd.prog W 0 (fun _ => true) true 41 v d p) (hp : ∀ x ∈ p, x.block < W.heap.size) :
    ∃ A l cap, v = .slice A l.length cap ∧ Reads W W.heap.size 4 A l.length (entsC l) ∧ l.length ≤ maxLen ∧ ∀ e ∈ l, e.key.length ≤ 9223372036854775807 ∧ e.value.length ≤ 9223372036854775807 ∧ e.seq < 18446744073709551616 := by
  obtain ⟨A, n, cap, rfl⟩ := okWide_slice Tryd.underlying41 hv
  obtain ⟨fuel, hf⟩ := h
  rcases open_slice_fields Tryd.underlying41 Tryd.underlying33 (by kernel_rfl) (by kernel_rfl) hf with ⟨hcs, hx⟩ | ⟨a, len, cap', m, D, Pl, hcs, hb, hl, hm, hmm, hx, hi⟩
  · simp [Value.cells] at hcs
    obtain ⟨rfl, rfl, rfl⟩ := hcs
    exact ⟨none, [], 0, rfl, Reads.none_, by simp, by simp⟩
  · simp [Value.cells] at hcs
    obtain ⟨rfl, rfl, rfl⟩ := hcs
    simp at hmm
    subst hmm
    by_cases hn0 : n = 0
    · subst hn0
      exact ⟨some a, [], m, rfl, ⟨rfl, fun h => absurd h (by simp)⟩, by simp, by simp⟩
    have hpl : a = ⟨a.block, a.off, none⟩ := by
      obtain ⟨ys, n0, h1, h2, h3, h4⟩ := hi 0 (by omega)
      obtain ⟨v, y, hc, _, _⟩ := h4 0 _ rfl
      have e0 : a.add (0 * 4 + 0) = a := by unfold Addr.add; simp
      have hc' := plain_of_cell hc
      rw [show (#[_, _, _, _] : Array Field).size = 4 from rfl] at hc'
      rw [e0] at hc'
      exact hc'
    have hblk : a.block < W.heap.size := by
      have hx2 := (Prod.mk.inj hx).2
      exact hp (.cell a.block a.off) (by rw [hx2]; refine List.mem_append_left _ ?_; rw [hpl]; simp [MemPlace.row]; omega)
    have hall : ∀ k, k < n → ∃ x : Ent, W.cell? (a.add (k * 4)) = some (.string (bs x.key)) ∧ W.cell? (a.add (k * 4 + 1)) = some (.string (bs x.value)) ∧ W.cell? (a.add (k * 4 + 2)) = some (.int .u64 (x.seq : Nat)) ∧ W.cell? (a.add (k * 4 + 3)) = some (.bool x.gone) ∧ (x.key.length ≤ 9223372036854775807 ∧ x.value.length ≤ 9223372036854775807 ∧ x.seq < 18446744073709551616) := by
      intro k hk
      obtain ⟨ys, n0, h1, h2, h3, h4⟩ := hi k (by omega)
      obtain ⟨v0, y0, c0, _, t0⟩ := h4 0 _ rfl
      obtain ⟨v1, y1, c1, _, t1⟩ := h4 1 _ rfl
      obtain ⟨v2, y2, c2, _, t2⟩ := h4 2 _ rfl
      obtain ⟨v3, y3, c3, _, t3⟩ := h4 3 _ rfl
      obtain ⟨x0, e0, rfl, w0⟩ := DataW.trod_string Tryd.underlying9 t0
      obtain ⟨x1, e1, rfl, w1⟩ := DataW.trod_string Tryd.underlying9 t1
      obtain ⟨x2, e2, rfl, w2⟩ := DataW.trod_int Tryd.underlying24 t2
      obtain ⟨x3, e3, rfl⟩ := DataW.trod_bool Tryd.underlying4 t3
      simp at e0 e1 e2 e3
      subst e0 e1 e2 e3
      have b2 := bounds_u64 w2
      rw [show (#[_, _, _, _] : Array Field).size = 4 from rfl] at c0 c1 c2 c3
      unfold maxLen at w0 w1
      refine ⟨⟨x0.data.toList, x1.data.toList, x2.toNat, x3⟩, ?_, ?_, ?_, c3, ⟨by simp only [dlen]; omega, by simp only [dlen]; omega, by simp only []; omega⟩⟩
      · simp only [bs_of]
        simpa using c0
      · simp only [bs_of]
        exact c1
      · simp only []
        rw [show ((x2.toNat : Nat) : Int) = x2 from by omega]
        exact c2
    obtain ⟨l, hl2, hP⟩ := list_of n hall
    refine ⟨some a, l, m, by rw [hl2], ⟨by rw [entsC_len]; omega, fun hn => ⟨a, rfl, hblk, fun j u hu => ?_⟩⟩, by rw [hl2]; omega, fun x hx => ?_⟩
    · have hj : j < l.length * 4 := by
        rcases Nat.lt_or_ge j (l.length * 4) with h | h
        · exact h
        · rw [List.getElem?_eq_none (by rw [entsC_len]; omega)] at hu; cases hu
      have hk : j / 4 < l.length := by omega
      have hget := List.getElem?_eq_getElem hk
      obtain ⟨p0, p1, p2, p3, _⟩ := hP _ _ hget
      obtain ⟨q0, q1, q2, q3⟩ := entsC_at l _ _ hget
      have hr : j = j / 4 * 4 ∨ j = j / 4 * 4 + 1 ∨ j = j / 4 * 4 + 2 ∨ j = j / 4 * 4 + 3 := by omega
      rcases hr with e | e | e | e <;> rw [e] at hu ⊢
      · rw [p0]; rw [q0] at hu; exact hu
      · rw [p1]; rw [q1] at hu; exact hu
      · rw [p2]; rw [q2] at hu; exact hu
      · rw [p3]; rw [q3] at hu; exact hu
    · obtain ⟨i, hi2, rfl⟩ := List.mem_iff_getElem.1 hx
      exact (hP i _ (List.getElem?_eq_getElem hi2)).2.2.2.2
theorem mem_at {T : Type} {P : Nat → T → Prop} {l : List T} (h : ∀ i x, l[i]? = some x → P i x) {x : T} (hx : x ∈ l) : ∃ i, P i x := by
  obtain ⟨i, hi, rfl⟩ := List.mem_iff_getElem.1 hx
  exact ⟨i, h i _ (List.getElem?_eq_getElem hi)⟩
/-- A list of rows of so many values each. -/
theorem flat_at {T : Type} {f : T → List Value} {m : Nat} (hm : 0 < m) (hf : ∀ x, (f x).length = m) : ∀ (l : List T) (j : Nat) (u : Value), (l.flatMap f)[j]? = some u → ∃ x, l[j / m]? = some x ∧ (f x)[j % m]? = some u
  | [], j, u, h => by simp at h
  | a :: l, j, u, h => by
    rw [List.flatMap_cons] at h
    by_cases hj : j < m
    · rw [List.getElem?_append_left (by rw [hf]; exact hj)] at h
      exact ⟨a, by rw [Nat.div_eq_of_lt hj]; rfl, by rw [Nat.mod_eq_of_lt hj]; exact h⟩
    · rw [List.getElem?_append_right (by rw [hf]; omega), hf] at h
      obtain ⟨x, h1, h2⟩ := flat_at hm hf l (j - m) u h
      refine ⟨x, ?_, ?_⟩
      · have : j / m = (j - m) / m + 1 := by rw [Nat.div_eq_sub_div hm (by omega)]
        rw [this]
        simpa using h1
      · have : j % m = (j - m) % m := Nat.mod_eq_sub_mod (by omega)
        rw [this]
        exact h2
theorem flat_len {T : Type} {f : T → List Value} {m : Nat} (hf : ∀ x, (f x).length = m) (l : List T) : (l.flatMap f).length = l.length * m := by
  induction l with
  | nil => simp
  | cons a l ih => rw [List.flatMap_cons, List.length_append, hf, ih, List.length_cons, Nat.add_mul]; omega
section
variable {H : Type} {enc : TypeId × Value → H} {W : World}
/-- A row whose items are read one by one. -/
theorem row_open {T : Type} {t e m n : Nat} {v : Value} {y : DataW H × List MemPlace} (ht : Tryd.prog.underlying t = some (.slice e)) (hC : Tryd.prog.cellsOf e = m) (hm : 0 < m) (f : T → List Value) (hf : ∀ x, (f x).length = m) (Q : T → Prop)
    (hone : ∀ (n : Nat) (cs : List Value) (z : DataW H × List MemPlace), (∀ x ∈ z.2, x.block < W.heap.size) → DataW.trod enc Tryd.prog W 0 (fun _ => true) true n e cs = some z → ∃ x, cs = f x ∧ Q x)
    (h : DataW.trod enc Tryd.prog W 0 (fun _ => true) true n t [v] = some y) (hp : ∀ x ∈ y.2, x.block < W.heap.size) : ∃ (A : Option Addr) (l : List T) (cap : Nat), v = .slice A l.length cap ∧ Reads W W.heap.size m A l.length (l.flatMap f) ∧ l.length ≤ maxLen ∧ ∀ x ∈ l, Q x := by
  rcases open_slice ht h with ⟨hcs, hx⟩ | ⟨a, len, cap, mm, n', D, Pl, hcs, hb, hl, hcm, hmm, hx, hi⟩
  · simp at hcs
    subst hcs
    exact ⟨none, [], 0, rfl, Reads.none_, by simp, by simp⟩
  · simp at hcs
    subst hcs
    simp at hmm
    subst hmm
    by_cases hn0 : len = 0
    · subst hn0
      exact ⟨some a, [], mm, rfl, ⟨by simp, fun h => absurd h (by simp)⟩, by simp, by simp⟩
    have hall : ∀ k, k < len → ∃ x, Q x ∧ ∀ j u, (f x)[j]? = some u → W.cell? (a.add (k * m + j)) = some u := by
      intro k hk
      obtain ⟨cs', hc, ht'⟩ := hi k (by omega)
      rw [hC] at hc
      obtain ⟨_, hcl, hat⟩ := World.cells?_some hc
      obtain ⟨x, rfl, hq⟩ := hone n' cs' _ (fun z hz => hp z (by
        rw [hx]
        exact List.mem_append_right _ (List.mem_flatMap.2 ⟨k, List.mem_range.2 (by omega), hz⟩))) ht'
      refine ⟨x, hq, fun j u hu => ?_⟩
      have hj : j < m := by rw [← hf x]; exact (List.getElem?_eq_some_iff.1 hu).1
      have := hat j hj
      rw [Go.Deep.add_add] at this
      rw [this, hu]
    obtain ⟨x0, _, h0⟩ := hall 0 (by omega)
    have hf0 : (f x0)[0]? = some ((f x0)[0]'(by rw [hf]; exact hm)) := List.getElem?_eq_getElem (by rw [hf]; exact hm)
    have hc0 := h0 0 _ hf0
    have e0 : a.add (0 * m + 0) = a := by unfold Addr.add; simp
    rw [e0] at hc0
    have hpl := plain_of_cell hc0
    have hblk : a.block < W.heap.size := hp (.cell a.block a.off) (by
      rw [hx]
      refine List.mem_append_left _ ?_
      rw [hpl, hC]
      have : 0 < mm * m := Nat.mul_pos (by omega) hm
      simp [MemPlace.row]
      omega)
    obtain ⟨l, hl2, hP⟩ := list_of len hall
    refine ⟨some a, l, mm, by rw [hl2], ⟨flat_len hf l, fun hn => ⟨a, rfl, hblk, fun j u hu => ?_⟩⟩, by rw [hl2]; omega, fun x hx => ?_⟩
    · obtain ⟨x, h1, h2⟩ := flat_at hm hf l j u hu
      have := (hP _ _ h1).2 _ _ h2
      rw [show j / m * m + j % m = j from by rw [Nat.mul_comm]; exact Nat.div_add_mod j m] at this
      exact this
    · obtain ⟨i, hq, _⟩ := mem_at hP hx
      exact hq
def ActOk (a : ActE) : Prop := a.d ≤ 255 ∧ a.e.key.length ≤ 9223372036854775807 ∧ a.e.value.length ≤ 9223372036854775807 ∧ a.e.seq < 18446744073709551616
theorem k_u8 : Tryd.prog.cellsOf 5 = 1 := by kernel_rfl
theorem k_str : Tryd.prog.cellsOf 9 = 1 := by kernel_rfl
theorem k_u64 : Tryd.prog.cellsOf 24 = 1 := by kernel_rfl
theorem k_bool : Tryd.prog.cellsOf 4 = 1 := by kernel_rfl
theorem k_ent : Tryd.prog.cellsOf 33 = 4 := by kernel_rfl
set_option maxRecDepth 100000 in
/-- An entry's four cells. -/
theorem ent_open {n : Nat} {cs : List Value} {y : DataW H × List MemPlace} (h : DataW.trod enc Tryd.prog W 0 (fun _ => true) true n 33 cs = some y) :
    ∃ e : Ent, cs = [.string (bs e.key), .string (bs e.value), .int .u64 (e.seq : Nat), .bool e.gone] ∧ e.key.length ≤ 9223372036854775807 ∧ e.value.length ≤ 9223372036854775807 ∧ e.seq < 18446744073709551616 := by
  obtain ⟨xs, n', _, hx, hl, hlen, hf⟩ := DataW.trod_struct Tryd.underlying33 h
  rw [k_ent] at hl
  match cs, hl with
  | [c0, c1, c2, c3], _ =>
    have h0 := hf 0 _ rfl
    have h1 := hf 1 _ rfl
    have h2 := hf 2 _ rfl
    have h3 := hf 3 _ rfl
    match xs, hlen with
    | [z0, z1, z2, z3], _ =>
      replace h0 : DataW.trod enc Tryd.prog W 0 (fun _ => true) true n' 9 [c0] = some z0 := by
        have h : DataW.trod enc Tryd.prog W 0 (fun _ => true) true n' 9 ((List.drop 0 [c0, c1, c2, c3]).take (Tryd.prog.cellsOf 9)) = some z0 := h0
        rw [k_str] at h
        exact h
      replace h1 : DataW.trod enc Tryd.prog W 0 (fun _ => true) true n' 9 [c1] = some z1 := by
        have h : DataW.trod enc Tryd.prog W 0 (fun _ => true) true n' 9 ((List.drop 1 [c0, c1, c2, c3]).take (Tryd.prog.cellsOf 9)) = some z1 := h1
        rw [k_str] at h
        exact h
      replace h2 : DataW.trod enc Tryd.prog W 0 (fun _ => true) true n' 24 [c2] = some z2 := by
        have h : DataW.trod enc Tryd.prog W 0 (fun _ => true) true n' 24 ((List.drop 2 [c0, c1, c2, c3]).take (Tryd.prog.cellsOf 24)) = some z2 := h2
        rw [k_u64] at h
        exact h
      replace h3 : DataW.trod enc Tryd.prog W 0 (fun _ => true) true n' 4 [c3] = some z3 := by
        have h : DataW.trod enc Tryd.prog W 0 (fun _ => true) true n' 4 ((List.drop 3 [c0, c1, c2, c3]).take (Tryd.prog.cellsOf 4)) = some z3 := h3
        rw [k_bool] at h
        exact h
      obtain ⟨x0, e0, _, w0⟩ := DataW.trod_string Tryd.underlying9 h0
      obtain ⟨x1, e1, _, w1⟩ := DataW.trod_string Tryd.underlying9 h1
      obtain ⟨x2, e2, _, w2⟩ := DataW.trod_int Tryd.underlying24 h2
      obtain ⟨x3, e3, _⟩ := DataW.trod_bool Tryd.underlying4 h3
      simp at e0 e1 e2 e3
      subst e0 e1 e2 e3
      have b2 := bounds_u64 w2
      unfold maxLen at w0 w1
      refine ⟨⟨x0.data.toList, x1.data.toList, x2.toNat, x3⟩, ?_, by simp only [dlen]; omega, by simp only [dlen]; omega, by simp only []; omega⟩
      simp only [bs_of]
      rw [show ((x2.toNat : Nat) : Int) = x2 from by omega]
set_option maxRecDepth 100000 in
/-- An act's five cells. -/
theorem act_open {n : Nat} {cs : List Value} {y : DataW H × List MemPlace} (h : DataW.trod enc Tryd.prog W 0 (fun _ => true) true n 52 cs = some y) :
    ∃ a : ActE, cs = actC a ∧ ActOk a := by
  obtain ⟨xs, n', _, hx, hl, hlen, hf⟩ := DataW.trod_struct Tryd.underlying52 h
  rw [(by kernel_rfl : Tryd.prog.cellsOf 52 = 5)] at hl
  match cs, hl with
  | [c0, c1, c2, c3, c4], _ =>
    have h0 := hf 0 _ rfl
    have h1 := hf 1 _ rfl
    match xs, hlen with
    | [z0, z1], _ =>
      replace h0 : DataW.trod enc Tryd.prog W 0 (fun _ => true) true n' 5 [c0] = some z0 := by
        have h : DataW.trod enc Tryd.prog W 0 (fun _ => true) true n' 5 ((List.drop 0 [c0, c1, c2, c3, c4]).take (Tryd.prog.cellsOf 5)) = some z0 := h0
        rw [k_u8] at h
        exact h
      replace h1 : DataW.trod enc Tryd.prog W 0 (fun _ => true) true n' 33 [c1, c2, c3, c4] = some z1 := by
        have h : DataW.trod enc Tryd.prog W 0 (fun _ => true) true n' 33 ((List.drop 1 [c0, c1, c2, c3, c4]).take (Tryd.prog.cellsOf 33)) = some z1 := h1
        rw [k_ent] at h
        exact h
      obtain ⟨x0, e0, _, w0⟩ := DataW.trod_int Tryd.underlying5 h0
      simp at e0
      subst e0
      have b0 := bounds_u8 w0
      obtain ⟨e, e1, q1, q2, q3⟩ := ent_open h1
      simp at e1
      obtain ⟨rfl, rfl, rfl, rfl⟩ := e1
      refine ⟨⟨x0.toNat, e⟩, ?_, by simp only []; omega, q1, q2, q3⟩
      unfold actC
      simp only []
      rw [show ((x0.toNat : Nat) : Int) = x0 from by omega]
end
set_option maxRecDepth 100000 in
theorem acts_open {H : Type} {enc : TypeId × Value → H} {W : World} {base : Nat} {v : Value} {d : DataW H} {p : List MemPlace}
    (hv : Value.okWide Tryd.prog W .any base 46 v) (h : DataW.Trod enc Tryd.prog W 0 (fun _ => true) true 46 v d p) (hp : ∀ x ∈ p, x.block < W.heap.size) :
    ∃ A l cap, v = .slice A l.length cap ∧ Reads W W.heap.size 5 A l.length (actsC l) ∧ l.length ≤ maxLen ∧ ∀ a ∈ l, ActOk a := by
  obtain ⟨A, n, cap, rfl⟩ := okWide_slice Tryd.underlying46 hv
  obtain ⟨fuel, hf⟩ := h
  obtain ⟨A', l, cap', e, hr, hl, hq⟩ := row_open (T := ActE) Tryd.underlying46 (by kernel_rfl : Tryd.prog.cellsOf 52 = 5) (by omega) actC (fun _ => rfl) ActOk (fun n cs z hz h => act_open h) (y := (d, p)) (by simpa [Value.cells] using hf) hp
  rw [List.flatMap_def] at hr
  exact ⟨A', l, cap', e, hr, hl, hq⟩
end Go.Proofs.YtfnlponoakhegaaDoor
