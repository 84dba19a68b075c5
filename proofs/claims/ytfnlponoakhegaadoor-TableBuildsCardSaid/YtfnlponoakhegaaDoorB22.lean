/- The laws' own functions: Great, GreatEntries, Same. The laws' own functions: Same of alike rows, taken. The sum turns where one byte turns. No program in sight. Package table, plain: a turned byte. TableTurned. The document's keys and rows: One, Internal, Ahead, row, four. The document's entries: Ahead, row; four bytes of a number. The document's sum (copyholdref03.Crc). A region that draws its order, by tasks: an invariant that sees the operations' values, too. -/
import Derived.Test.YtfnlponoakhegaaDoorTAwWJ
import Derived.Test.YtfnlponoakhegaaDoorB01
import Derived.Test.YtfnlponoakhegaaDoorB20
import Derived.Test.YtfnlponoakhegaaDoorB00
namespace Go.Proofs.YtfnlponoakhegaaDoor
open Go.RowKit
set_option linter.unusedVariables false
set_option linter.unusedSimpArgs false
structure ActE where
  d : Nat
  e : Ent
def actC (a : ActE) : List Value := [.int .u8 (a.d : Nat), .string (bs a.e.key), .string (bs a.e.value), .int .u64 (a.e.seq : Nat), .bool a.e.gone]
def actsC (l : List ActE) : List Value := (l.map actC).flatten
theorem actsC_app (a b : List ActE) : actsC (a ++ b) = actsC a ++ actsC b := by simp [actsC]
theorem actsC_one (a : ActE) : actsC [a] = [.int .u8 (a.d : Nat), .string (bs a.e.key), .string (bs a.e.value), .int .u64 (a.e.seq : Nat), .bool a.e.gone] := rfl
theorem actsC_at : ∀ (l : List ActE) (i : Nat) (a : ActE), l[i]? = some a → (actsC l)[i * 5]? = some (.int .u8 (a.d : Nat)) ∧ (actsC l)[i * 5 + 1]? = some (.string (bs a.e.key)) ∧ (actsC l)[i * 5 + 2]? = some (.string (bs a.e.value)) ∧ (actsC l)[i * 5 + 3]? = some (.int .u64 (a.e.seq : Nat)) ∧ (actsC l)[i * 5 + 4]? = some (.bool a.e.gone)
  | [], i, a, h => by simp at h
  | x :: l, 0, a, h => by simp at h; subst h; exact ⟨rfl, rfl, rfl, rfl, rfl⟩
  | x :: l, i + 1, a, h => by
    have ih := actsC_at l i a (by simpa using h)
    have e1 : actsC (x :: l) = .int .u8 (x.d : Nat) :: .string (bs x.e.key) :: .string (bs x.e.value) :: .int .u64 (x.e.seq : Nat) :: .bool x.e.gone :: actsC l := rfl
    rw [e1, show (i + 1) * 5 = i * 5 + 1 + 1 + 1 + 1 + 1 from by omega]
    simpa using ih
def greatR : List Ent → Nat → Bool
  | [], n => decide (8000 < n)
  | e :: r, n => if 8000 < e.key.length ∨ 8000 < e.value.length then true else greatR r (n + e.key.length + e.value.length)
theorem greatR_cons (e : Ent) (r : List Ent) (n : Nat) : greatR (e :: r) n = if 8000 < e.key.length ∨ 8000 < e.value.length then true else greatR r (n + e.key.length + e.value.length) := rfl
def greatP (l : List Ent) : Bool := if 100 < l.length then true else greatR l 0
theorem greatR_not : ∀ (l : List Ent) (n : Nat), greatR l n = false → n + entSz l ≤ 8000
  | [], n, h => by
    unfold greatR at h
    simp at h
    simp [entSz]
    omega
  | e :: r, n, h => by
    unfold greatR at h
    split at h
    · cases h
    · have := greatR_not r _ h
      unfold entSz at this ⊢
      simp only [List.map_cons, List.sum_cons]
      omega
theorem greatP_not {l : List Ent} (h : greatP l = false) : l.length ≤ 100 ∧ entSz l ≤ 8000 := by
  unfold greatP at h
  split at h
  · cases h
  · have := greatR_not l 0 h
    exact ⟨by omega, by omega⟩
set_option maxRecDepth 100000 in
set_option maxHeartbeats 1000000 in
theorem Great_any (A : Option Addr) (l : List ActE) (cap : Nat) (w : World) (hr : Reads w w.heap.size 5 A l.length (actsC l)) (hl : l.length ≤ 9223372036854775807) (hs : ∀ a ∈ l, a.e.key.length ≤ 9223372036854775807 ∧ a.e.value.length ≤ 9223372036854775807) :
    Calls Tryd.prog 18 #[.slice A l.length cap] w fun e w' => e = .returned (.bool (greatP (l.map (·.e)))) ∧ Below w.heap.size w w' := by
  by_cases h100 : 100 < l.length
  · have h100' : (100 : Int) < (l.length : Nat) := by omega
    have hP : greatP (l.map (·.e)) = true := by unfold greatP; rw [if_pos (by rw [List.length_map]; exact h100)]
    replace hP := Lib.hid hP
    go_enter Tryd.func18, Tryd.ntmps18
    go_wp2_with fail
    go_ret
    exact ⟨by rw [hP.out]; rfl, Below.refl _ _⟩
  · have h100' : ¬ (100 : Int) < (l.length : Nat) := by omega
    have hP : greatP (l.map (·.e)) = greatR (l.map (·.e)) 0 := by unfold greatP; rw [if_neg (by rw [List.length_map]; exact h100)]
    have hP2 := Lib.hid hP
    clear hP
    go_enter Tryd.func18, Tryd.ntmps18
    go_wp2_with fail
    go_loopw [3, 4] (fun nv iv wr => ∃ i n, i ≤ l.length ∧ iv = .int .i64 (i : Nat) ∧ nv = .int .i64 (n : Nat) ∧ n ≤ 16000 * i ∧ greatR (l.map (·.e)) 0 = greatR ((l.drop i).map (·.e)) n ∧ Below w.heap.size w wr) (fun _ iv _ => l.length - (intOf iv).toNat)
    case atStart => exact ⟨0, 0, Nat.zero_le _, rfl, rfl, by omega, rfl, Below.refl _ _⟩
    case round =>
      obtain ⟨i, n, hi, rfl, rfl, hn, hg, hbr⟩ := hrel
      have hzr := hbr.size
      by_cases hil : i < l.length
      · have hil' : ((i : Nat) : Int) < (l.length : Nat) := by omega
        have hx := List.getElem?_eq_getElem hil
        have hdr : l.drop i = l[i] :: l.drop (i + 1) := List.drop_eq_getElem_cons hil
        rw [hdr, List.map_cons] at hg
        rw [greatR_cons] at hg
        obtain ⟨ad, rfl, hab, hcell⟩ := (hr.below hbr).2 (by omega)
        obtain ⟨q0, q1, q2, q3, q4⟩ := actsC_at l i _ hx
        obtain ⟨bb, oo, rfl⟩ := plain_cell (hcell 0 _ (actsC_at l 0 l[0] (List.getElem?_eq_getElem (by omega))).1)
        replace q1 := hcell _ _ q1
        replace q2 := hcell _ _ q2
        rw [add_off] at q1 q2
        rw [← Nat.add_assoc] at q1 q2
        have hab' : bb < wr.heap.size := Nat.lt_of_lt_of_le hab hzr
        clear hcell q0 q3 q4
        obtain ⟨s1, s2⟩ := hs _ (List.getElem_mem hil)
        replace hx := Lib.hid hx
        replace hdr := Lib.hid hdr
        generalize l[i] = a at *
        obtain ⟨ad', ek, ev, es, eg⟩ := a
        simp only at q1 q2 hg s1 s2
        have hks : (bs ek).size = ek.length := bs_size _
        have hvs : (bs ev).size = ev.length := bs_size _
        by_cases h1 : 8000 < ek.length
        · have h1' : (8000 : Int) < (ek.length : Nat) := by omega
          rw [if_pos (.inl h1)] at hg
          replace hg := Lib.hid hg
          go_wp2_with fail
          go_ret
          exact ⟨by rw [hP2.out, hg.out]; rfl, hbr⟩
        · have h1' : ¬ (8000 : Int) < (ek.length : Nat) := by omega
          by_cases h2 : 8000 < ev.length
          · have h2' : (8000 : Int) < (ev.length : Nat) := by omega
            rw [if_pos (.inr h2)] at hg
            replace hg := Lib.hid hg
            go_wp2_with fail
            go_ret
            exact ⟨by rw [hP2.out, hg.out]; rfl, hbr⟩
          · have h2' : ¬ (8000 : Int) < (ev.length : Nat) := by omega
            rw [if_neg (by rintro (h | h) <;> contradiction)] at hg
            replace hg := Lib.hid hg
            go_wp2_with fail
            have hxc := @Ext.cell
            refine wp_region_ext (by kernel_rfl) (by kernel_rfl) ?_
            repeat (go_big_quiet_step ((first | fail)))
            refine wpQuiet_nil ?_
            clear hxc
            intro wx hwx
            obtain ⟨x, hx⟩ := hwx
            have hb := x.below
            rw [← hx] at hb
            clear hx x
            go_wp2_with fail
            refine ⟨⟨i + 1, n + ek.length + ev.length, by omega, by go_num, by go_num, by omega, hg.out, hbr.trans (hb.mono hzr)⟩, by first | omega | (simp only [intOf]; omega)⟩
      · obtain rfl : i = l.length := by omega
        have hil' : ¬ ((l.length : Nat) : Int) < (l.length : Nat) := by omega
        have hg2 : greatR (l.map (·.e)) 0 = decide (8000 < n) := by rw [hg, List.drop_length]; rfl
        replace hg2 := Lib.hid hg2
        clear hg
        have hd : decide ((8000 : Int) < (n : Nat)) = decide (8000 < n) := by
          by_cases h : 8000 < n
          · have : (8000 : Int) < (n : Nat) := by omega
            simp [h, this]
          · have : ¬ (8000 : Int) < (n : Nat) := by omega
            simp [h, this]
        by_cases h8 : 8000 < n
        · have h8' : (8000 : Int) < (n : Nat) := by omega
          have hd8 : decide (8000 < n) = true := by simpa using h8
          rw [hd8] at hg2
          clear hd
          go_wp2_with fail
          go_ret
          exact ⟨by rw [hP2.out, hg2.out]; rfl, hbr⟩
        · have h8' : ¬ (8000 : Int) < (n : Nat) := by omega
          have hd8 : decide (8000 < n) = false := by simpa using h8
          rw [hd8] at hg2
          clear hd
          go_wp2_with fail
          go_ret
          exact ⟨by rw [hP2.out, hg2.out]; rfl, hbr⟩
def OwnA (w : World) (B : Nat) (v : Value) (l : List ActE) : Prop := w.ownsRow B 52 5 v l.length (actsC l)
theorem OwnA.snoc {w : World} {B : Nat} {v : Value} {l : List ActE} (o : ActE) (h : w.ownsRow B 52 5 v (l.length + 1) (actsC l ++ [.int .u8 (o.d : Nat), .string (bs o.e.key), .string (bs o.e.value), .int .u64 (o.e.seq : Nat), .bool o.e.gone])) : OwnA w B v (l ++ [o]) := by
  unfold OwnA
  rw [actsC_app, actsC_one, List.length_append]
  exact h
theorem OwnA.form {w : World} {B : Nat} {v : Value} {l : List ActE} (h : OwnA w B v l) : ∃ A cap, v = .slice A l.length cap := by
  rcases h.2 with ⟨rfl, e⟩ | ⟨g, cap, cur, rfl, _⟩
  · exact ⟨none, 0, by rw [e]⟩
  · exact ⟨_, cap, rfl⟩
theorem act_info : (Tryd.prog.info? 52).map (fun i => (i.zero, i.size, i.bytes)) = some (some (.agg #[.int .u8 0, .string ⟨#[]⟩, .string ⟨#[]⟩, .int .u64 0, .bool false]), 5, 56) := by kernel_rfl
theorem reads5 (w : World) (t : TypeId) (x y z u s : Value) : Reads (w.alloc (.cells #[x, y, z, u, s] t)) (w.heap.size + 1) 5 (some ⟨w.heap.size, 0, none⟩) 1 [x, y, z, u, s] := by
  refine ⟨rfl, fun _ => ⟨_, rfl, by simp, fun j v hv => ?_⟩⟩
  have e1 : (⟨w.heap.size, 0, none⟩ : Addr).add j = ⟨w.heap.size, j, none⟩ := by cases j <;> simp [Addr.add]
  rw [e1, World.cell?_alloc_new]
  have hj : j < 5 := by
    rcases Nat.lt_or_ge j 5 with h | h
    · exact h
    · rw [List.getElem?_eq_none (by simp; omega)] at hv; cases hv
  match j, hj with
  | 0, _ => exact hv
  | 1, _ => exact hv
  | 2, _ => exact hv
  | 3, _ => exact hv
  | 4, _ => exact hv
theorem OwnA.reads {w : World} {B : Nat} {A : Option Addr} {cap : Nat} {l : List ActE} (h : OwnA w B (.slice A l.length cap) l) : Reads w w.heap.size 5 A l.length (actsC l) := Reads.of_own h
set_option maxRecDepth 100000 in
set_option maxHeartbeats 1000000 in
theorem GreatE_any (A : Option Addr) (l : List Ent) (cap : Nat) (w : World) (hr : Reads w w.heap.size 4 A l.length (entsC l)) (hl : l.length ≤ 9223372036854775807) (hs : ∀ e ∈ l, e.key.length ≤ 9223372036854775807 ∧ e.value.length ≤ 9223372036854775807) :
    Calls Tryd.prog 22 #[.slice A l.length cap] w fun e w' => e = .returned (.bool (greatP l)) ∧ Below w.heap.size w w' := by
  obtain ⟨i0, hi0, hz0, hz1, hz2⟩ := info_parts act_info
  go_enter Tryd.func22, Tryd.ntmps22
  go_wp2_with fail
  go_loopw [3, 4] (fun vv iv wr => ∃ i, i ≤ l.length ∧ i ≤ 101 ∧ iv = .int .i64 (i : Nat) ∧ OwnA wr w.heap.size vv ((l.take i).map (ActE.mk 0)) ∧ Below w.heap.size w wr) (fun _ iv _ => l.length - (intOf iv).toNat)
  case atStart => exact ⟨0, Nat.zero_le _, by omega, rfl, World.ownsRow_nil _ _ _ 5, Below.refl _ _⟩
  case round =>
    obtain ⟨i, hi, hi1, rfl, hO, hbr⟩ := hrel
    have hzr := hbr.size
    obtain ⟨Ao, co, rfl⟩ := hO.form
    by_cases hil : i < l.length
    · have hil' : ((i : Nat) : Int) < (l.length : Nat) := by omega
      by_cases h100 : 100 < i
      · have h100' : (100 : Int) < (i : Nat) := by omega
        have hP : greatP l = true := by unfold greatP; rw [if_pos (by omega)]
        replace hP := Lib.hid hP
        go_wp2_with fail
        go_ret
        exact ⟨by rw [hP.out]; rfl, hbr⟩
      · have h100' : ¬ (100 : Int) < (i : Nat) := by omega
        have hx := List.getElem?_eq_getElem hil
        have hsn : (l.take (i + 1)).map (ActE.mk 0) = (l.take i).map (ActE.mk 0) ++ [ActE.mk 0 l[i]] := by rw [List.take_succ_eq_append_getElem hil, List.map_append]; rfl
        obtain ⟨ad, rfl, hab, hcell⟩ := (hr.below hbr).2 (by omega)
        obtain ⟨bb, oo, rfl⟩ := plain_cell (hcell 0 _ (entsC_at l 0 l[0] (List.getElem?_eq_getElem (by omega))).1)
        obtain ⟨q0, q1, q2, q3⟩ := entsC_at l i _ hx
        replace q0 := hcell _ _ q0
        replace q1 := hcell _ _ q1
        replace q2 := hcell _ _ q2
        replace q3 := hcell _ _ q3
        rw [add_off] at q0 q1 q2 q3
        rw [← Nat.add_assoc] at q1 q2 q3
        clear hcell
        replace hx := Lib.hid hx
        have htl : ((l.take i).map (ActE.mk 0)).length ≤ 100 := by rw [List.length_map, List.length_take]; omega
        generalize l[i] = eo at *
        generalize (l.take i).map (ActE.mk 0) = L at *
        have ho1 := World.ownsRow.alloc (show wr.ownsRow w.heap.size 52 5 (.slice Ao L.length co) L.length (actsC L) from hO) (.cells #[.int .u8 0, .string (bs eo.key), .string (bs eo.value), .int .u64 (eo.seq : Nat), .bool eo.gone] 52)
        have hrd := reads5 wr 52 (.int .u8 0) (.string (bs eo.key)) (.string (bs eo.value)) (.int .u64 (eo.seq : Nat)) (.bool eo.gone)
        replace ho1 := Lib.hid ho1
        replace hrd := Lib.hid hrd
        replace hsn := Lib.hid hsn
        go_wp2_with (at_builtin; refine wpList_append_any _ rfl (.tmp 13) (.tmp 19) _ rfl w.heap.size 52 i0 _ 5 56 Tryd.underlying46 hi0 hz0 hz1 hz2 rfl (by omega) _ L.length (actsC L) rfl ho1.out (wr.heap.size + 1) (some ⟨wr.heap.size, 0, none⟩) 1 1 _ rfl hrd.out (fun u hu => by simp at hu; rcases hu with rfl | rfl | rfl | rfl | rfl <;> rfl) (by unfold maxLen; omega) (by omega) (by rw [World.size_alloc]; omega) ?_)
        intro v' w2 ho2 hg2 hat2
        go_wp2_with fail
        refine ⟨⟨i + 1, by omega, by omega, by go_num, by rw [hsn.out]; exact OwnA.snoc ⟨0, eo⟩ ho2, ?_⟩, by first | omega | (simp only [intOf]; omega)⟩
        exact (hbr.alloc hzr _).grown hg2 (by rw [World.size_alloc]; omega) (fun k hk => (own_lt hO k hk).1)
    · obtain rfl : i = l.length := by omega
      have hil' : ¬ ((l.length : Nat) : Int) < (l.length : Nat) := by omega
      rw [List.take_length] at hO ⊢
      have hgr := Great_any Ao (l.map (ActE.mk 0)) co wr hO.reads (by rw [List.length_map]; exact hl) (fun a ha => by
        obtain ⟨e, he, rfl⟩ := List.mem_map.1 ha
        exact hs e he)
      rw [List.map_map] at hgr
      have hid : l.map ((fun x => x.e) ∘ ActE.mk 0) = l := by
        rw [show ((fun x => x.e) ∘ ActE.mk 0 : Ent → Ent) = id from rfl, List.map_id]
      rw [hid, List.length_map] at hgr
      replace hgr := Lib.hid hgr
      clear hid
      go_wp2_with fail
      refine hgr.out.mono ?_
      rintro e w2 ⟨rfl, hb2⟩
      go_wp2_with fail
      go_ret
      exact ⟨rfl, hbr.trans (hb2.mono hzr)⟩
set_option maxRecDepth 100000 in
set_option maxHeartbeats 1000000 in
theorem Same_refl (A A' : Option Addr) (l : List Ent) (cap cap' : Nat) (w : World) (hr : Reads w w.heap.size 4 A l.length (entsC l)) (hr' : Reads w w.heap.size 4 A' l.length (entsC l)) (hl : l.length ≤ 9223372036854775807) :
    Calls Tryd.prog 24 #[.slice A l.length cap, .slice A' l.length cap'] w fun e w' => e = .returned (.bool true) ∧ Below w.heap.size w w' := by
  go_enter Tryd.func24, Tryd.ntmps24
  go_wp2_with fail
  go_loopw [5] (fun iv wr => ∃ i, i ≤ l.length ∧ iv = .int .i64 (i : Nat) ∧ Below w.heap.size w wr) (fun iv _ => l.length - (intOf iv).toNat)
  case atStart => exact ⟨0, Nat.zero_le _, rfl, Below.refl _ _⟩
  case round =>
    obtain ⟨i, hi, rfl, hbr⟩ := hrel
    have hzr := hbr.size
    by_cases hil : i < l.length
    · have hil' : ((i : Nat) : Int) < (l.length : Nat) := by omega
      have hx := List.getElem?_eq_getElem hil
      obtain ⟨ad, rfl, hab, acell⟩ := (hr.below hbr).2 (by omega)
      obtain ⟨ad2, rfl, hab2, bcell⟩ := (hr'.below hbr).2 (by omega)
      obtain ⟨abb, aoo, rfl⟩ := plain_cell (acell 0 _ (entsC_at l 0 l[0] (List.getElem?_eq_getElem (by omega))).1)
      obtain ⟨aq0, aq1, aq2, aq3⟩ := entsC_at l i _ hx
      replace aq0 := acell _ _ aq0
      replace aq1 := acell _ _ aq1
      replace aq2 := acell _ _ aq2
      replace aq3 := acell _ _ aq3
      rw [add_off] at aq0 aq1 aq2 aq3
      rw [← Nat.add_assoc] at aq1 aq2 aq3
      clear acell
      obtain ⟨bbb, boo, rfl⟩ := plain_cell (bcell 0 _ (entsC_at l 0 l[0] (List.getElem?_eq_getElem (by omega))).1)
      obtain ⟨bq0, bq1, bq2, bq3⟩ := entsC_at l i _ hx
      replace bq0 := bcell _ _ bq0
      replace bq1 := bcell _ _ bq1
      replace bq2 := bcell _ _ bq2
      replace bq3 := bcell _ _ bq3
      rw [add_off] at bq0 bq1 bq2 bq3
      rw [← Nat.add_assoc] at bq1 bq2 bq3
      clear bcell
      have ha' : abb < wr.heap.size := Nat.lt_of_lt_of_le hab hzr
      have hb' : bbb < wr.heap.size := Nat.lt_of_lt_of_le hab2 hzr
      replace hx := Lib.hid hx
      generalize l[i] = eo at *
      go_wp2_with fail
      have hxc := @Ext.cell
      refine wp_region_ext (by kernel_rfl) (by kernel_rfl) ?_
      repeat (go_big_quiet_step ((first | fail)))
      refine wpQuiet_nil ?_
      clear hxc
      intro wx hwx
      obtain ⟨x, hx⟩ := hwx
      have hb := x.below
      rw [← hx] at hb
      clear hx x
      go_wp2_with fail
      exact ⟨⟨i + 1, by omega, by go_num, hbr.trans (hb.mono hzr)⟩, by first | omega | (simp only [intOf]; omega)⟩
    · obtain rfl : i = l.length := by omega
      have hil' : ¬ ((l.length : Nat) : Int) < (l.length : Nat) := by omega
      go_wp2_with fail
      go_ret
      exact ⟨rfl, hbr⟩
theorem results_ttct {fn : Func} {a b p u : Tmp} {ty : TypeId} (h : fn.results = #[.tmp a, .tmp b, .cell p ty, .tmp u]) (tmps : Array Value) (w : World) (g : Nat) (v x y z : Value)
    (hx : tmps.getD a undef = x) (hz : tmps.getD b undef = z) (hp : tmps.getD p undef = .pointer (some ⟨g, 0, none⟩)) (hy : tmps.getD u undef = y) (hl : (loadVar ty ⟨g, 0, none⟩).run Tryd.prog w = .ok v w) :
    (results fn tmps).run Tryd.prog w = .ok (.tuple #[x, z, v, y]) w := by
  have hx' : tmps[a]?.getD undef = x := by simpa using hx
  have hz' : tmps[b]?.getD undef = z := by simpa using hz
  have hp' : tmps[p]?.getD undef = .pointer (some ⟨g, 0, none⟩) := by simpa using hp
  have hy' : tmps[u]?.getD undef = y := by simpa using hy
  simp only [results, h]
  simp [Sem.run_bind, Result.andThen, hx', hz', hp', hy', asAddr, hl]
theorem own_more {w : World} {B B' e m n : Nat} {v : Value} {xs : List Value} (h : w.ownsRow B e m v n xs) (hB : B' ≤ B) : w.ownsRow B' e m v n xs := by
  refine ⟨h.1, h.2.imp id ?_⟩
  rintro ⟨g, cap, cur, e1, h1, rest⟩
  exact ⟨g, cap, cur, e1, Nat.le_trans hB h1, rest⟩
theorem add_piece {s : TB} {e : Ent} (h : s.err e ≠ 0) : (s.add e).2 = [] := by rw [add_err h]
set_option maxRecDepth 100000 in
set_option maxHeartbeats 4000000 in
theorem taken_any (A : Option Addr) (l : List Ent) (cap : Nat) (w : World) (hG : Gl w) (hr : Reads w w.heap.size 4 A l.length (entsC l)) (hl : l.length ≤ 1048576) (hsq : ∀ e ∈ l, e.seq < 18446744073709551616) :
    Calls Tryd.prog 23 #[.slice A l.length cap] w fun e w' => ∃ v, e = .returned (.tuple #[v, .string (bs ((runX 3 1 l).2.1 ++ (runX 3 1 l).1.outL)), .agg (tiC (finT (runX 3 1 l))), .int .i64 (finE (runX 3 1 l) : Nat)]) ∧ OwnE w' w.heap.size v (runX 3 1 l).2.2 ∧ Below w.heap.size w w' := by
  obtain ⟨i0, hi0, hz0, hz1, hz2⟩ := info_parts entry_info
  obtain ⟨w0, hw0⟩ : ∃ w0, w.alloc (.cells #[.int .u64 0, .int .i64 0, .int .i64 0, .int .i64 0, .string ⟨#[]⟩, .string ⟨#[]⟩, .int .u64 0, .int .u64 0] 26) = w0 := ⟨_, rfl⟩
  have hA : Below w.heap.size w w0 := by rw [← hw0]; exact (Below.refl _ _).alloc (Nat.le_refl _) _
  have hR0 : Blk w0 w.heap.size 26 #[.int .u64 0, .int .i64 0, .int .i64 0, .int .i64 0, .string ⟨#[]⟩, .string ⟨#[]⟩, .int .u64 0, .int .u64 0] := by rw [← hw0]; exact Blk.new _ _ _
  have hnew := Lib.hid (New_any 3 1 w0)
  have hGl := hG.lt
  have hG0 := hG.below hA hGl
  have hrl := hR0.lt
  have hz0' : w0.heap.size = w.heap.size + 1 := by rw [← hw0, World.size_alloc]
  have hrd0 := (hr.below hA).more hA.size
  replace hz0' := Lib.hid hz0'
  go_enter Tryd.func23, Tryd.ntmps23
  go_wp2_with fail
  replace hw0 := Lib.hid hw0
  refine hnew.out.mono ?_
  rintro e w1 ⟨⟨gb, rfl, hB1⟩, hb1⟩
  have hS1 := TSt.new hB1 hb1
  clear hnew hB1 hb1
  go_wp2_with fail
  go_loopw [7, 8, 9] (fun ov sv iv wr => ∃ i, i ≤ l.length ∧ iv = .int .i64 (i : Nat) ∧ sv = .string (bs (runX 3 1 (l.take i)).2.1) ∧ TSt w0 wr 3 1 gb (l.take i) ov (runX 3 1 (l.take i)).2.2) (fun _ _ iv _ => l.length - (intOf iv).toNat)
  case atStart => exact ⟨0, Nat.zero_le _, rfl, rfl, hS1⟩
  case round =>
    obtain ⟨i, hi, rfl, rfl, hSt⟩ := hrel
    have hbr := hSt.bel
    obtain ⟨Ao, co, rfl⟩ := hSt.row.form
    by_cases hil : i < l.length
    · have hil' : ((i : Nat) : Int) < (l.length : Nat) := by omega
      have hx := List.getElem?_eq_getElem hil
      have hsn : l.take (i + 1) = l.take i ++ [l[i]] := by rw [List.take_succ_eq_append_getElem hil]
      have hsq1 := hsq _ (List.getElem_mem hil)
      obtain ⟨ad, rfl, hab, acell⟩ := (hrd0.below hbr).2 (by omega)
      obtain ⟨abb, aoo, rfl⟩ := plain_cell (acell 0 _ (entsC_at l 0 l[0] (List.getElem?_eq_getElem (by omega))).1)
      obtain ⟨aq0, aq1, aq2, aq3⟩ := entsC_at l i _ hx
      replace aq0 := acell _ _ aq0
      replace aq1 := acell _ _ aq1
      replace aq2 := acell _ _ aq2
      replace aq3 := acell _ _ aq3
      rw [add_off] at aq0 aq1 aq2 aq3
      rw [← Nat.add_assoc] at aq1 aq2 aq3
      clear acell
      have hab' : abb < w0.heap.size := hab
      replace hx := Lib.hid hx
      have htl : (l.take i).length ≤ i := by rw [List.length_take]; omega
      generalize l[i] = eo at *
      generalize l.take i = es at *
      have hadd := Lib.hid (hSt.add hG0 (by omega) eo hsq1)
      have hpl := piece_len 3 1 es eo (by omega)
      have hrs := runX_snoc 3 1 es eo
      have hown := (runX_I 3 1 es).len
      have hpc := @add_piece (runX 3 1 es).1 eo
      replace hsn := Lib.hid hsn
      unfold entC at hadd
      unfold stepX at hrs
      obtain ⟨r, hrr⟩ : ∃ r, r = runX 3 1 es := ⟨_, rfl⟩
      rw [← hrr] at hrs hpl hadd hown hpc ⊢
      by_cases he : r.1.err eo = 0
      · have he' : ((r.1.err eo : Nat) : Int) = 0 := by omega
        rw [if_pos he] at hrs
        replace hrr := Lib.hid hrr
        replace hrs := Lib.hid hrs
        replace he := Lib.hid he
        clear hpc
        go_wp2_with fail
        refine hadd.out.mono ?_
        rintro e w2 ⟨rfl, hSt2⟩
        have hbr2 := hSt2.bel
        have hO2 := hSt2.row
        have hz2' := hbr2.size
        have hszz : ¬ 9223372036854775807 < (bs r.2.1).size + (bs (r.1.add eo).2).size := by rw [bs_size, bs_size]; omega
        have q0 := ((hrd0.below hbr2)).2 (by omega)
        obtain ⟨ad', hq, hab2, ccell⟩ := q0
        injection hq with hq
        subst hq
        obtain ⟨cq0, cq1, cq2, cq3⟩ := entsC_at l i _ hx.out
        replace cq0 := ccell _ _ cq0
        replace cq1 := ccell _ _ cq1
        replace cq2 := ccell _ _ cq2
        replace cq3 := ccell _ _ cq3
        rw [add_off] at cq0 cq1 cq2 cq3
        rw [← Nat.add_assoc] at cq1 cq2 cq3
        clear ccell aq0 aq1 aq2 aq3
        have ho1 := World.ownsRow.alloc (show w2.ownsRow w0.heap.size 33 4 (.slice Ao r.2.2.length co) r.2.2.length (entsC r.2.2) from hO2) (.cells #[.string (bs eo.key), .string (bs eo.value), .int .u64 (eo.seq : Nat), .bool eo.gone] 33)
        have hrd := reads4 w2 33 (.string (bs eo.key)) (.string (bs eo.value)) (.int .u64 (eo.seq : Nat)) (.bool eo.gone)
        have hbase : w0.heap.size ≤ (w2.alloc (.cells #[.string (bs eo.key), .string (bs eo.value), .int .u64 (eo.seq : Nat), .bool eo.gone] 33)).heap.size := by rw [World.size_alloc]; omega
        replace ho1 := Lib.hid ho1
        replace hrd := Lib.hid hrd
        go_wp2_with (at_builtin; refine wpList_append_any _ rfl (.tmp 36) (.tmp 41) _ rfl w0.heap.size 33 i0 _ 4 48 Tryd.underlying41 hi0 hz0 hz1 hz2 rfl (by omega) _ r.2.2.length (entsC r.2.2) rfl ho1.out (w2.heap.size + 1) (some ⟨w2.heap.size, 0, none⟩) 1 1 _ rfl hrd.out (fun u hu => by simp at hu; rcases hu with rfl | rfl | rfl | rfl <;> rfl) (by unfold maxLen; omega) (by omega) hbase ?_)
        intro v' w7 ho7 hg7 hat7
        have hSt7 := hSt2.grow hg7 (OwnE.snoc eo ho7) (by rw [World.size_alloc]; exact hat7)
        replace hSt7 := Lib.hid hSt7
        go_wp2_with fail
        refine ⟨⟨i + 1, by omega, by go_num, ?_, ?_⟩, by first | omega | (simp only [intOf]; omega)⟩
        · rw [hsn.out, hrs.out, bs_append]
        · rw [hsn.out, hrs.out]
          exact hSt7.out
      · have he' : ¬ ((r.1.err eo : Nat) : Int) = 0 := by omega
        have hpe := hpc he
        rw [if_neg he, hpe, List.append_nil] at hrs
        rw [hpe] at hadd
        clear hpc
        replace hrr := Lib.hid hrr
        replace hrs := Lib.hid hrs
        replace he := Lib.hid he
        replace hpe := Lib.hid hpe
        go_wp2_with fail
        refine hadd.out.mono ?_
        rintro e w2 ⟨rfl, hSt2⟩
        have hszz : ¬ 9223372036854775807 < (bs r.2.1).size + (bs []).size := by rw [bs_size, bs_size]; simp only [List.length_nil]; omega
        have hbe : (bs []).toList = [] := bs_toList _
        have hbe2 : bs r.2.1 ++ bs [] = bs r.2.1 := by rw [bs_append, List.append_nil]
        go_wp2_with fail
        refine ⟨⟨i + 1, by omega, by go_num, ?_, ?_⟩, by first | omega | (simp only [intOf]; omega)⟩
        · rw [hsn.out, hrs.out]
        · rw [hsn.out, hrs.out]
          exact hSt2
    · obtain rfl : i = l.length := by omega
      have hil' : ¬ ((l.length : Nat) : Int) < (l.length : Nat) := by omega
      rw [List.take_length] at hSt ⊢
      have hfin := Lib.hid (hSt.fin hG0 (by omega))
      have hln := runX_len 3 1 l (by omega)
      obtain ⟨r, hrr⟩ : ∃ r, r = runX 3 1 l := ⟨_, rfl⟩
      obtain ⟨x, hxx⟩ : ∃ x, x = finT (runX 3 1 l) := ⟨_, rfl⟩
      rw [← hxx] at hfin
      rw [← hrr] at hfin hln ⊢
      replace hrr := Lib.hid hrr
      replace hxx := Lib.hid hxx
      go_wp2_with fail
      refine hfin.out.mono ?_
      rintro e w2 ⟨rfl, hO2, hb2⟩
      have hR2 := hR0.below hb2 hrl
      have hb02 := hA.trans (hb2.mono hA.size)
      have hO3 : OwnE (w2.alloc (.cells (tiC x) 26)) w0.heap.size (.slice Ao r.2.2.length co) r.2.2 := hO2.below ((Below.refl _ _).alloc (Nat.le_refl _) _)
      have hT3 := Blk.new w2 26 (tiC x)
      have hR3 := hR2.below ((Below.refl w2.heap.size w2).alloc (Nat.le_refl _) (.cells (tiC x) 26)) hR2.lt
      have hb03 := hb02.alloc hb02.size (.cells (tiC x) 26)
      have hl3 : w2.heap.size < (w2.alloc (.cells (tiC x) 26)).heap.size := by rw [World.size_alloc]; omega
      have hszz : ¬ 9223372036854775807 < (bs r.2.1).size + (bs r.1.outL).size := by rw [bs_size, bs_size]; omega
      unfold tiC strV at hT3 hR3 hb03 hl3 hO3 ⊢
      go_wp2_with fail
      generalize hw3 : w2.alloc (.cells #[.int .u64 (x.n : Nat), .int .i64 x.level, .int .i64 (x.count : Nat), .int .i64 (x.size : Nat), .string (bs x.first), .string (bs x.last), .int .u64 (x.least : Nat), .int .u64 (x.most : Nat)] 26) = w3 at *
      have z0 := hT3.cell 0
      have z1 := hT3.cell 1
      have z2 := hT3.cell 2
      have z3 := hT3.cell 3
      have z4 := hT3.cell 4
      have z5 := hT3.cell 5
      have z6 := hT3.cell 6
      have z7 := hT3.cell 7
      simp only [List.getElem?_toArray, List.getElem?_cons_zero, List.getElem?_cons_succ] at z0 z1 z2 z3 z4 z5 z6 z7
      replace hw3 := Lib.hid hw3
      have hxc := @Ext.cell
      have hxf := @Ext.frozen
      refine wp_hide (fun Q0 hQ0 => ?_)
      refine wp_region_line (fun w' => ∃ x : Ext _, w' = x.w) [some false, some false, some false, some false, some false, some true, some false, some false, none, none] 0 (by kernel_rfl) (by kernel_rfl) ⟨⟨_, (Below.refl _ _).drew⟩, rfl⟩ ?_
      simp only [earlyL, tailL]
      repeat (first | ((with_reducible refine wpMix_p ?_); go_big_quiet_step (fail); refine wpQuiet_nil ?_) | ((with_reducible refine wpMix_e ?_); go_big_quiet_step ((first | fail)); refine wpQuiet_nil ?_))
      refine wpMix_nil ?_
      clear hxc hxf
      intro wx hwx
      obtain ⟨x, hx⟩ := hwx
      have hb := x.below
      rw [← hx] at hb
      clear hx x
      have hRx := hR3.below hb hR3.lt
      have hbx := hb03.trans (hb.mono hb03.size)
      have hOx := hO3.below hb
      have x0 := hRx.cell 0
      have x1 := hRx.cell 1
      have x2 := hRx.cell 2
      have x3 := hRx.cell 3
      have x4 := hRx.cell 4
      have x5 := hRx.cell 5
      have x6 := hRx.cell 6
      have x7 := hRx.cell 7
      have u0 := hRx.frozen 0
      have u1 := hRx.frozen 1
      have u2 := hRx.frozen 2
      have u3 := hRx.frozen 3
      have u4 := hRx.frozen 4
      have u5 := hRx.frozen 5
      have u6 := hRx.frozen 6
      have u7 := hRx.frozen 7
      have ul := hRx.lt
      simp only [List.getElem?_toArray, List.getElem?_cons_zero, List.getElem?_cons_succ] at x0 x1 x2 x3 x4 x5 x6 x7
      clear z0 z1 z2 z3 z4 z5 z6 z7
      have hfinR := ti_set hRx x
      replace hfinR := Lib.hid hfinR
      have hbf := (((((((hbx.setCell (p := ⟨w.heap.size, 0, none⟩) (Nat.le_refl _) (.int .u64 (x.n : Nat))).setCell (p := ⟨w.heap.size, 1, none⟩) (Nat.le_refl _) (.int .i64 x.level)).setCell (p := ⟨w.heap.size, 2, none⟩) (Nat.le_refl _) (.int .i64 (x.count : Nat))).setCell (p := ⟨w.heap.size, 3, none⟩) (Nat.le_refl _) (.int .i64 (x.size : Nat))).setCell (p := ⟨w.heap.size, 4, none⟩) (Nat.le_refl _) (.string (bs x.first))).setCell (p := ⟨w.heap.size, 5, none⟩) (Nat.le_refl _) (.string (bs x.last))).setCell (p := ⟨w.heap.size, 6, none⟩) (Nat.le_refl _) (.int .u64 (x.least : Nat))).setCell (p := ⟨w.heap.size, 7, none⟩) (Nat.le_refl _) (.int .u64 (x.most : Nat))
      replace hbf := Lib.hid hbf
      have hkf := ((((((((KeptBut.refl wx (fun k => k = w.heap.size)).then_set (o := 0) (v := .int .u64 (x.n : Nat)) rfl).then_set (o := 1) (v := .int .i64 x.level) rfl).then_set (o := 2) (v := .int .i64 (x.count : Nat)) rfl).then_set (o := 3) (v := .int .i64 (x.size : Nat)) rfl).then_set (o := 4) (v := .string (bs x.first)) rfl).then_set (o := 5) (v := .string (bs x.last)) rfl).then_set (o := 6) (v := .int .u64 (x.least : Nat)) rfl).then_set (o := 7) (v := .int .u64 (x.most : Nat)) rfl
      have hOf : OwnE _ w0.heap.size (.slice Ao r.2.2.length co) r.2.2 := own_kept hOx hkf (fun k e1 e2 => by have := (own_lt hOx k e1).1; have := hz0'.out; omega)
      replace hOf := Lib.hid hOf
      clear hkf
      refine wpTail_step ?_
      intro Q1 hQ1
      go_wp2_with (fail)
      refine hQ1 _ _ rfl (fun h => absurd h (by decide)) ?_
      clear hQ1 Q1
      refine wpTail_step ?_
      intro Q1 hQ1
      go_wp2_with (fail)
      refine hQ1 _ _ rfl (fun h => absurd h (by decide)) ?_
      clear hQ1 Q1
      refine wpTail_nil ?_
      refine hQ0 _ _ ?_
      clear hQ0 Q0
      go_wp2_with fail
      refine bodyPost_ret (v := .tuple #[.slice Ao r.2.2.length co, .string (bs (r.2.1 ++ r.1.outL)), .agg (tiC x), .int .i64 (finE r : Nat)]) (results_ttct rfl _ _ w.heap.size _ _ _ _ rfl (by rw [← bs_append]; rfl) rfl rfl (load_ti hfinR.out rfl)) rfl ⟨.slice Ao r.2.2.length co, by rw [← hrr.out, hxx.out, ← hrr.out], ?_, hbf.out⟩
      rw [← hrr.out]
      exact own_more hOf.out (by have := hz0'.out; omega)
end Go.Proofs.YtfnlponoakhegaaDoor
namespace Go.Proofs.YtfnlponoakhegaaDoor
set_option linter.unusedVariables false
set_option linter.unusedSimpArgs false
theorem crcT_high : ∀ i j : Fin 16, crcT i.val >>> 28 = crcT j.val >>> 28 → i = j := by decide
theorem nib_high {s : Nat} (h : s < 4294967296) : crcNib s >>> 28 = crcT (s % 16) >>> 28 := by
  unfold crcNib
  rw [Nat.shiftRight_xor_distrib]
  have : (s / 16) >>> 28 = 0 := by rw [Nat.shiftRight_eq_div_pow]; omega
  rw [this, Nat.zero_xor]
theorem xor_cancel {a b c : Nat} (h : a ^^^ c = b ^^^ c) : a = b := by
  have := congrArg (· ^^^ c) h
  simpa [Nat.xor_assoc] using this
theorem nib_inj {s s' : Nat} (h : s < 4294967296) (h' : s' < 4294967296) (e : crcNib s = crcNib s') : s = s' := by
  have e1 : crcT (s % 16) >>> 28 = crcT (s' % 16) >>> 28 := by rw [← nib_high h, ← nib_high h', e]
  have e2 := crcT_high ⟨s % 16, Nat.mod_lt _ (by decide)⟩ ⟨s' % 16, Nat.mod_lt _ (by decide)⟩ e1
  have e3 : s % 16 = s' % 16 := congrArg Fin.val e2
  unfold crcNib at e
  rw [e3] at e
  have := xor_cancel e
  omega
theorem byte_xlt {s : Nat} (h : s < 4294967296) (c : UInt8) : s ^^^ c.toNat < 4294967296 := xor_lt h (by have := c.toNat_lt; omega)
theorem byte_inj {s s' : Nat} (h : s < 4294967296) (h' : s' < 4294967296) (c : UInt8) (e : crcByte s c = crcByte s' c) : s = s' := by
  unfold crcByte at e
  have e1 := nib_inj (crcNib_lt (byte_xlt h c)) (crcNib_lt (byte_xlt h' c)) e
  exact xor_cancel (nib_inj (byte_xlt h c) (byte_xlt h' c) e1)
theorem byte_inj2 {s : Nat} (h : s < 4294967296) {c c' : UInt8} (e : crcByte s c = crcByte s c') : c = c' := by
  unfold crcByte at e
  have e1 := nib_inj (crcNib_lt (byte_xlt h c)) (crcNib_lt (byte_xlt h c')) e
  have e2 := nib_inj (byte_xlt h c) (byte_xlt h c') e1
  rw [Nat.xor_comm s, Nat.xor_comm s] at e2
  exact UInt8.toNat_inj.1 (xor_cancel e2)
theorem fold_inj : ∀ (l : List UInt8) {s s' : Nat}, s < 4294967296 → s' < 4294967296 → l.foldl crcByte s = l.foldl crcByte s' → s = s'
  | [], _, _, _, _, e => e
  | c :: l, s, s', h, h', e => byte_inj h h' c (fold_inj l (crcByte_lt h c) (crcByte_lt h' c) e)
/-- One byte is another one: the sum is another one. -/
theorem crc_turn (a b : List UInt8) {c c' : UInt8} (h : c ≠ c') : crcL (a ++ c :: b) ≠ crcL (a ++ c' :: b) := by
  intro e
  unfold crcL at e
  rw [Nat.xor_comm, Nat.xor_comm 4294967295] at e
  have e1 := xor_cancel e
  unfold crcSum at e1
  rw [List.foldl_append, List.foldl_append, List.foldl_cons, List.foldl_cons] at e1
  have ha := crcFold_lt a (s := 4294967295) (by decide)
  exact h (byte_inj2 ha (fold_inj b (crcByte_lt ha c) (crcByte_lt ha c') e1))
def fileX (r : TB × L × List Ent) : L := r.2.1 ++ r.1.outL
theorem crc_form {n : Nat} {lv : Int} {es : List Ent} (hne : (runX n lv es).2.2 ≠ []) : ∃ d, fileX (runX n lv es) = d ++ bigL (crcL d) 4 := by
  obtain ⟨⟨bl, cu, h6, h7⟩, hrun, hlen, hsub⟩ := runX_I n lv es
  generalize runX n lv es = r at *
  obtain ⟨bls, h2⟩ := h6.fin_
  refine ⟨r.2.1 ++ r.1.rest ++ r.1.fin.tail0, ?_⟩
  have e1 : (r.1.fin.parts ++ [r.1.fin.tail0]).flatten = r.2.1 ++ r.1.rest ++ r.1.fin.tail0 := by
    rw [List.flatten_append, h2.parts, h2.out_]
    simp [outs]
  unfold fileX
  rw [h6.outL_eq hne]
  unfold TB.tail
  rw [e1]
  simp only [List.append_assoc]
theorem file_ne {n : Nat} {lv : Int} {es : List Ent} (hne : (runX n lv es).2.2 ≠ []) : fileX (runX n lv es) ≠ [] := by
  obtain ⟨d, e⟩ := crc_form hne
  rw [e]
  intro h
  have := congrArg List.length h
  rw [List.length_append, bigL_len] at this
  simp at this
theorem file_nil {n : Nat} {lv : Int} {es : List Ent} (hne : (runX n lv es).2.2 = []) : fileX (runX n lv es) = [] := by
  obtain ⟨⟨bl, cu, h6, h7⟩, hrun, hlen, hsub⟩ := runX_I n lv es
  generalize runX n lv es = r at *
  unfold fileX
  rw [h6.outL_nil hne, h6.out_]
  have h1 := h6.blen
  rw [hne] at h1
  have h2 : bl = [] := List.eq_nil_of_length_eq_zero (by simp at h1; simp [h1])
  rw [h2]
  rfl
theorem runT_X (es : List Ent) : runT es = ((runX 0 0 es).1, (runX 0 0 es).2.1) := by
  induction es using snocRec with
  | nil => rfl
  | snoc es e ih =>
    rw [runX_snoc]
    unfold runT at ih ⊢
    rw [List.foldl_append, ih]
    rfl
theorem crc_eq {a b : Nat} (ha : a < 4294967296) (hb : b < 4294967296) (h : bigL a 4 = bigL b 4) : a = b := by
  have := congrArg beV h
  rw [beV_big, beV_big] at this
  omega
/-- Bytes of which one is another one are no table's. -/
theorem turned_none {n : Nat} {lv : Int} {es : List Ent} (hne : (runX n lv es).2.2 ≠ []) {k : Nat} {c : UInt8} (hk : k < (fileX (runX n lv es)).length) (hc : (fileX (runX n lv es))[k] ≠ c) : openT ((fileX (runX n lv es)).set k c) = none := by
  obtain ⟨d, e⟩ := crc_form hne
  generalize fileX (runX n lv es) = S at *
  subst e
  cases ho : openT ((d ++ bigL (crcL d) 4).set k c) with
  | none => rfl
  | some t =>
    exfalso
    obtain ⟨es', h1, _, _⟩ := openT_some ho
    rw [runT_X] at h1
    have hne' : (runX 0 0 es').2.2 ≠ [] := by
      intro h
      have := file_nil h
      unfold fileX at this
      simp only at h1
      rw [this] at h1
      have := congrArg List.length h1
      simp [bigL_len] at this
    obtain ⟨d', e'⟩ := crc_form hne'
    have h2 : (d ++ bigL (crcL d) 4).set k c = d' ++ bigL (crcL d') 4 := h1.trans e'
    have hl := congrArg List.length h2
    rw [List.length_set, List.length_append, List.length_append, bigL_len, bigL_len] at hl
    by_cases hkd : k < d.length
    · rw [List.set_append_left _ _ hkd] at h2
      obtain ⟨h3, h4⟩ := List.append_inj h2 (by rw [List.length_set]; omega)
      have h5 := crc_eq (crcL_lt _) (crcL_lt _) h4
      rw [← h3] at h5
      have e1 : d = d.take k ++ d[k] :: d.drop (k + 1) := by rw [← List.drop_eq_getElem_cons hkd, List.take_append_drop]
      have e2 : d.set k c = d.take k ++ c :: d.drop (k + 1) := by rw [List.set_eq_take_append_cons_drop, if_pos hkd]
      rw [e2] at h5
      have hck : d[k] ≠ c := by
        rw [List.getElem_append_left hkd] at hc
        exact hc
      have h6 := crc_turn (d.take k) (d.drop (k + 1)) hck
      rw [← e1] at h6
      exact h6 h5
    · rw [List.set_append_right _ _ (by omega)] at h2
      obtain ⟨h3, h4⟩ := List.append_inj h2 (by omega)
      rw [← h3] at h4
      rw [List.length_append, bigL_len] at hk
      have h5 := congrArg (fun l => l[k - d.length]?) h4
      rw [List.getElem?_set_self (by rw [bigL_len]; omega), List.getElem?_eq_getElem (by rw [bigL_len]; omega)] at h5
      injection h5 with h5
      rw [List.getElem_append_right (by omega)] at hc
      exact hc h5.symm
theorem turned_same {n : Nat} {lv : Int} {es : List Ent} {k : Nat} {c : UInt8} (hk : k < (fileX (runX n lv es)).length) (hc : (fileX (runX n lv es))[k] = c) : (fileX (runX n lv es)).set k c = fileX (runX n lv es) := by
  rw [← hc]
  exact List.set_getElem_self hk
end Go.Proofs.YtfnlponoakhegaaDoor
namespace Go.Proofs.YtfnlponoakhegaaDoor
open Go.RowKit
set_option linter.unusedVariables false
set_option linter.unusedSimpArgs false
theorem conv_own (w : World) (s : ByteArray) : ∃ cap W2, (convert 9 34 (.string s)).run Tryd.prog w = .ok (.slice (some ⟨w.heap.size, 0, none⟩) s.size cap) W2 ∧ Below w.heap.size w W2 ∧ W2.heap.size = w.heap.size + 1 ∧ (∀ j, j < s.size → W2.cell? ⟨w.heap.size, j, none⟩ = some (B8 (s.data.toList.getD j 0))) ∧ ∀ j, j < s.size → W2.frozen? ⟨w.heap.size, j, none⟩ = false :=
  ⟨_, _, Lib.run_convert_string_bytes w 9 34 5 s Tryd.underlying9 Tryd.underlying34 Tryd.underlying5,
    ⟨rfl, rfl, rfl, by rw [Lib.bytesWorld_size]; omega, fun k hk => Lib.bytesWorld_at_old w _ s k hk⟩, Lib.bytesWorld_size w _ s, fun j hj => Lib.bytesWorld_cell w _ s j hj, fun j hj => by
      have hsz : s.size ≤ (Lib.bytesCells w 5 s).size := by
        unfold Lib.bytesCells
        rw [Array.size_append, Array.size_map]
        exact Nat.le_add_right _ _
      simp only [World.frozen?, Lib.bytesWorld_at_new]
      have : ¬ (Lib.bytesCells w 5 s).size ≤ j := by omega
      simp [this]⟩
set_option maxRecDepth 100000 in
theorem conv_back {w : World} {g cap : Nat} {l : L} (h : ∀ j, j < l.length → w.cell? ⟨g, j, none⟩ = some (B8 (l.getD j 0))) : (convert 34 9 (.slice (some ⟨g, 0, none⟩) l.length cap)).run Tryd.prog w = .ok (.string (bs l)) w := by
  have := run_convert_bytes_arg (P := Tryd.prog) w 34 5 Tryd.underlying34 Tryd.underlying5 g 0 l.length cap (l.map fun c => (c.toNat : Int)) (by simp) (fun i hi => by
      rw [Nat.zero_add, h i hi]
      simp [B8, List.getD, hi]) 9 Tryd.underlying9
  rw [this]
  congr 2
  unfold strOfNums bs
  congr 1
  simp [List.map_map, Function.comp_def]
theorem entSz_sub {a b : List Ent} (h : a.Sublist b) : entSz a ≤ entSz b := by
  induction h with
  | slnil => exact Nat.le_refl _
  | cons x _ ih => unfold entSz at *; simp only [List.map_cons, List.sum_cons]; omega
  | cons_cons x _ ih => unfold entSz at *; simp only [List.map_cons, List.sum_cons]; omega
theorem xor_zero_iff (x c : Nat) (h : x ^^^ c = x) : c = 0 := by
  have := congrArg (x ^^^ ·) h
  simpa [← Nat.xor_assoc] using this
set_option maxRecDepth 100000 in
set_option maxHeartbeats 1000000 in
theorem Turned_any (A : Option Addr) (l : List Ent) (cap : Nat) (at_ : Nat) (c : Nat) (w : World) (hG : Gl w) (hr : Reads w w.heap.size 4 A l.length (entsC l)) (hl : l.length ≤ 9223372036854775807) (hs : ∀ e ∈ l, e.key.length ≤ 9223372036854775807 ∧ e.value.length ≤ 9223372036854775807 ∧ e.seq < 18446744073709551616) (ha : at_ < 65536) (hc : c < 256) :
    Calls Tryd.prog 7 #[.slice A l.length cap, .int .u16 (at_ : Nat), .int .u8 (c : Nat)] w fun e w' => e = .returned (.bool true) ∧ Below w.heap.size w w' := by
  have hgr := GreatE_any A l cap w hr hl (fun e he => ⟨(hs e he).1, (hs e he).2.1⟩)
  have hawk := Lib.hid awake_any
  have hGl := hG.lt
  cases hgp : greatP l
  · rw [hgp] at hgr
    obtain ⟨hl100, hsz⟩ := greatP_not hgp
    replace hgr := Lib.hid hgr
    replace hgp := Lib.hid hgp
    go_enter Tryd.func7, Tryd.ntmps7
    go_wp2_with fail
    refine hgr.out.mono ?_
    rintro e w1 ⟨rfl, hb1⟩
    have hz1 := hb1.size
    have htk := taken_any A l cap w1 (hG.below hb1 hGl) ((hr.below hb1).more hz1) (by omega) (fun e he => (hs e he).2.2)
    have hfe := @file_ne 3 1 l
    have hfn := @file_nil 3 1 l
    have htn := @turned_none 3 1 l
    have hts := @turned_same 3 1 l
    have hop := @opened 3 1 l (by omega)
    have hX := runX_I 3 1 l
    have hE : finE (runX 3 1 l) = if (runX 3 1 l).2.2 = [] then 9 else 0 := rfl
    unfold fileX at hfe hfn htn hts
    obtain ⟨r, hrr⟩ : ∃ r, r = runX 3 1 l := ⟨_, rfl⟩
    rw [← hrr] at htk hfe hfn htn hts hop hX hE
    obtain ⟨⟨bl, cu, h6, h7⟩, hrun, hlen, hsub⟩ := hX
    have hent : entSz r.2.2 ≤ 8000 := Nat.le_trans (entSz_sub hsub) hsz
    have hfl := h6.file_len (by omega) hent
    obtain ⟨S, hS⟩ : ∃ S, S = r.2.1 ++ r.1.outL := ⟨_, rfl⟩
    rw [← hS] at htk hfe hfn htn hts hop hfl
    replace hS := Lib.hid hS
    obtain ⟨x, hxx⟩ : ∃ x, x = finT r := ⟨_, rfl⟩
    rw [← hxx] at htk
    replace hxx := Lib.hid hxx
    replace hrr := Lib.hid hrr
    clear h6 h7 hrun
    by_cases hne : r.2.2 = []
    · rw [hE, if_pos hne, hfn hne] at htk
      clear hfe hfn htn hts hop
      replace htk := Lib.hid htk
      replace hE := Lib.hid hE
      go_wp2_with fail
      refine htk.out.mono ?_
      rintro e w2 ⟨v, rfl, hO2, hb2⟩
      have hb02 := hb1.trans (hb2.mono hz1)
      have hbe : (bs []).toList = [] := bs_toList _
      have hal : Below w.heap.size w (w2.alloc (.cells (tiC x) 26)) := hb02.alloc hb02.size _
      have haw := Lib.hid (hawk.out _ (hG.below hal hGl))
      unfold tiC strV at hal haw ⊢
      go_wp2_with fail
      refine haw.out.mono ?_
      rintro e w3 ⟨rfl, hb3⟩
      go_wp2_with fail
      go_ret
      exact ⟨rfl, hal.trans (hb3.mono hal.size)⟩
    · rw [hE, if_neg hne] at htk
      have hS0 := hfe hne
      have hop2 := hop hne
      have htn2 := @htn hne
      clear hfe hfn hop htn
      replace htk := Lib.hid htk
      replace hE := Lib.hid hE
      have hSl : 0 < S.length := List.length_pos_iff.2 hS0
      have hbs : (bs S).size = S.length := bs_size _
      go_wp2_with fail
      refine htk.out.mono ?_
      rintro e w2 ⟨v, rfl, hO2, hb2⟩
      have hb02 := hb1.trans (hb2.mono hz1)
      have hal : Below w.heap.size w (w2.alloc (.cells (tiC x) 26)) := hb02.alloc hb02.size _
      unfold tiC strV at hal ⊢
      replace hb02 := Lib.hid hb02
      obtain ⟨w3, hw3⟩ : ∃ w3, w2.alloc (.cells #[.int .u64 (x.n : Nat), .int .i64 x.level, .int .i64 (x.count : Nat), .int .i64 (x.size : Nat), .string (bs x.first), .string (bs x.last), .int .u64 (x.least : Nat), .int .u64 (x.most : Nat)] 26) = w3 := ⟨_, rfl⟩
      rw [hw3] at hal
      obtain ⟨cap3, w4, hrun, hbW, hzW, hcells, hfz⟩ := conv_own w3 (bs S)
      rw [bs_size] at hrun hcells hfz
      rw [bs_data] at hcells
      have hb04 := hal.trans (hbW.mono hal.size)
      have hmod : ((at_ : Nat) : Int) % ((S.length : Nat) : Int) = ((at_ % S.length : Nat) : Int) := by omega
      have hkl : at_ % S.length < S.length := Nat.mod_lt _ hSl
      generalize at_ % S.length = k at *
      have hck := hcells k hkl
      have hfk := hfz k hkl
      have hgd : S.getD k 0 = S[k] := by simp [hkl]
      rw [hgd] at hck
      unfold B8 at hck
      have hxl := (S[k]).toNat_lt
      have hxor := u8_xor_nat (S[k]).toNat c hxl hc
      obtain ⟨q, hq⟩ : ∃ q, q = (S[k]).toNat ^^^ c := ⟨_, rfl⟩
      have hql : q < 256 := by rw [hq]; exact Nat.xor_lt_two_pow (n := 8) hxl hc
      rw [← hq] at hxor
      have hlg : w3.heap.size < w4.heap.size := by rw [hzW]; omega
      have hqv : B8 (UInt8.ofNat q) = .int .u8 ((q : Nat) : Int) := by unfold B8; rw [UInt8.toNat_ofNat', Nat.mod_eq_of_lt hql]
      have hcv := conv_back (w := w4.setCell ⟨w3.heap.size, k, none⟩ (.int .u8 ((q : Nat) : Int))) (g := w3.heap.size) (cap := cap3) (l := S.set k (UInt8.ofNat q)) (fun j hj => by
        rw [List.length_set] at hj
        by_cases hjk : j = k
        · subst hjk
          rw [World.cell?_setCell_same' _ _ _ (by rw [hck]; rfl), ← hqv]
          simp [List.getD, hkl]
        · have hne : (⟨w3.heap.size, k, none⟩ : Addr) ≠ ⟨w3.heap.size, j, none⟩ := by
            intro e
            injection e with e1 e2
            omega
          rw [World.cell?_setCell_other (h := hne), hcells j hj]
          have : k ≠ j := fun e => hjk e.symm
          simp [List.getD, List.getElem?_set_ne this])
      rw [List.length_set] at hcv
      have hb05 := hb04.setCell (p := ⟨w3.heap.size, k, none⟩) hal.size (.int .u8 ((q : Nat) : Int))
      have hopn := TOpen_any (bs (S.set k (UInt8.ofNat q))) (w4.setCell ⟨w3.heap.size, k, none⟩ (.int .u8 ((q : Nat) : Int))) (by rw [bs_size, List.length_set]; exact hfl) (hG.below hb05 hGl)
      rw [bs_data] at hopn
      replace hcells := Lib.hid hcells
      replace hfz := Lib.hid hfz
      replace hq := Lib.hid hq
      replace hgd := Lib.hid hgd
      have hopn2 := Lib.hid hopn
      clear hopn
      replace hqv := Lib.hid hqv
      go_wp2_with fail
      refine hopn2.out.mono ?_
      rintro e w6 ⟨hOp, hb6⟩
      have hb06 := hb05.trans (hb6.mono hb05.size)
      have haw := Lib.hid (hawk.out _ (hG.below hb06 hGl))
      clear hopn2 hb6
      by_cases hc0 : c = 0
      · have hsame : S.set k (UInt8.ofNat q) = S := hts hkl (by rw [hq.out, hc0]; simp)
        obtain ⟨bls, ho, _⟩ := hop2
        rw [hsame, ho] at hOp
        obtain ⟨gt, rfl, _⟩ := hOp
        clear hts htn2 ho
        replace hsame := Lib.hid hsame
        have hc0' : ((c : Nat) : Int) = 0 := by omega
        go_wp2_with fail
        refine haw.out.mono ?_
        rintro e w7 ⟨rfl, hb7⟩
        go_wp2_with fail
        go_ret
        exact ⟨rfl, hb06.trans (hb7.mono hb06.size)⟩
      · have hnone : openT (S.set k (UInt8.ofNat q)) = none := htn2 hkl (fun e => hc0 (by
          have e1 := congrArg UInt8.toNat e
          rw [UInt8.toNat_ofNat', Nat.mod_eq_of_lt hql, hq.out] at e1
          exact xor_zero_iff _ _ e1.symm))
        rw [hnone] at hOp
        have hOp2 : e = .returned (.tuple #[.pointer none, .int .i64 8]) := hOp
        subst hOp2
        clear hts htn2 hop2 hOp
        replace hnone := Lib.hid hnone
        have hc0' : ¬ ((c : Nat) : Int) = 0 := by omega
        have hcb : (((c : Nat) : Int) == 0) = false := by simpa using hc0'
        go_wp2_with fail
        refine haw.out.mono ?_
        rintro e w7 ⟨rfl, hb7⟩
        go_wp2_with fail
        go_ret
        exact ⟨rfl, hb06.trans (hb7.mono hb06.size)⟩
  · rw [hgp] at hgr
    replace hgr := Lib.hid hgr
    go_enter Tryd.func7, Tryd.ntmps7
    go_wp2_with fail
    refine hgr.out.mono ?_
    rintro e w1 ⟨rfl, hb1⟩
    go_wp2_with fail
    refine (hawk.out w1 (hG.below hb1 hGl)).mono ?_
    rintro e w2 ⟨rfl, hb2⟩
    go_wp2_with fail
    go_ret
    exact ⟨rfl, hb1.trans (hb2.mono hb1.size)⟩
theorem escL_snoc (a : L) (c : UInt8) : escL (a ++ [c]) = escL a ++ (if c = 0 then [0, 255] else [c]) := by
  induction a with
  | nil => simp only [List.nil_append, escL]
  | cons x a ih =>
    simp only [List.cons_append, escL]
    split <;> simp [ih]
set_option maxRecDepth 100000 in
set_option maxHeartbeats 2000000 in
theorem ROne_str (k : L) (w : World) (hk : k.length ≤ 1048576) :
    Calls Tryd.prog 48 #[.agg #[.bool true, .string (bs k), .int .u64 0]] w fun e w' => e = .returned (.string (bs (strKey k))) ∧ Below w.heap.size w w' := by
  have hX := Blk.new w 101 #[.bool true, .string (bs k), .int .u64 0]
  have hb : Below w.heap.size w (w.alloc (.cells #[.bool true, .string (bs k), .int .u64 0] 101)) := (Below.refl _ _).alloc (Nat.le_refl _) _
  have hks : (bs k).size = k.length := bs_size _
  go_enter Tryd.func48, Tryd.ntmps48
  go_wp2_with fail
  go_loopw [3, 4] (fun sv iv wr => ∃ i, i ≤ k.length ∧ iv = .int .i64 (i : Nat) ∧ sv = .string (bs (2 :: escL (k.take i))) ∧ wr = w.alloc (.cells #[.bool true, .string (bs k), .int .u64 0] 101)) (fun _ iv _ => k.length - (intOf iv).toNat)
  case atStart => exact ⟨0, Nat.zero_le _, rfl, rfl, rfl⟩
  case round =>
    obtain ⟨i, hi, rfl, rfl, rfl⟩ := hrel
    have hel := escL_len (k.take i)
    rw [List.length_take] at hel
    by_cases hil : i < k.length
    · have hil' : ((i : Nat) : Int) < (k.length : Nat) := by omega
      have hsn : escL (k.take (i + 1)) = escL (k.take i) ++ (if k[i] = 0 then [0, 255] else [k[i]]) := by rw [List.take_succ_eq_append_getElem hil, escL_snoc]
      have hex : (bs k).extract i (i + 1) = bs [k[i]] := by
        rw [ext_bs, bs_data]
        congr 1
        rw [List.drop_eq_getElem_cons hil, show i + 1 - i = 1 from by omega]
        rfl
      have hix : ((bs k)[i]'(by rw [hks]; exact hil)) = k[i] := by simp [bs, ByteArray.getElem_eq_getElem_data]
      have hib : ((i : Nat) : Int) < ((bs k).size : Nat) := by rw [hks]; exact hil'
      have hsz1 : ¬ 9223372036854775807 < (bs (2 :: escL (k.take i))).size + (bs [k[i]]).size := by rw [bs_size, bs_size]; simp only [List.length_cons, List.length_nil]; omega
      generalize hc : k[i] = c at *
      replace hc := Lib.hid hc
      have hap1 := bs_append (2 :: escL (k.take i)) [c]
      have hsz2 : ¬ 9223372036854775807 < (bs (2 :: escL (k.take i) ++ [c])).size + (⟨#[255]⟩ : ByteArray).size := by rw [bs_size]; simp only [List.length_cons, List.length_append, List.length_nil]; show ¬ 9223372036854775807 < _ + 1; omega
      generalize hE : escL (k.take i) = E at *
      replace hE := Lib.hid hE
      replace hsn := Lib.hid hsn
      by_cases hc0 : c = 0
      · subst hc0
        have hap2 : bs (2 :: (E ++ [0])) ++ (⟨#[255]⟩ : ByteArray) = bs (2 :: (E ++ [0, 255])) := by
          rw [show (⟨#[255]⟩ : ByteArray) = bs [255] from rfl, bs_append]
          simp
        go_wp2_with fail
        refine ⟨⟨i + 1, by omega, by go_num, ?_, trivial⟩, by first | omega | (simp only [intOf]; omega)⟩
        rw [hsn.out, if_pos rfl]
      · have hcn : ¬ ((c.toNat : Nat) : Int) = 0 := by
          intro h
          exact hc0 (UInt8.toNat_inj.1 (by show c.toNat = 0; omega))
        have hcb : (((c.toNat : Nat) : Int) == 0) = false := by simpa using hcn
        go_wp2_with fail
        refine ⟨⟨i + 1, by omega, by go_num, ?_, trivial⟩, by first | omega | (simp only [intOf]; omega)⟩
        rw [hsn.out, if_neg hc0]
    · obtain rfl : i = k.length := by omega
      have hil' : ¬ ((k.length : Nat) : Int) < (k.length : Nat) := by omega
      rw [List.take_length] at hel ⊢
      have hsz3 : ¬ 9223372036854775807 < (bs (2 :: escL k)).size + (⟨#[0, 1]⟩ : ByteArray).size := by rw [bs_size]; simp only [List.length_cons]; show ¬ 9223372036854775807 < _ + 2; omega
      go_wp2_with fail
      go_ret
      refine ⟨?_, hb⟩
      have e : bs (2 :: escL k) ++ (⟨#[0, 1]⟩ : ByteArray) = bs (strKey k) := by
        rw [show (⟨#[0, 1]⟩ : ByteArray) = bs [0, 1] from rfl, bs_append]
        rfl
      rw [← e]
      rfl
set_option maxRecDepth 100000 in
set_option maxHeartbeats 2000000 in
theorem RInternal_any (k : L) (q : Nat) (w : World) (hk : k.length ≤ 1048576) (hq : q < 18446744073709551616) :
    Calls Tryd.prog 19 #[.string (bs k), .int .u64 (q : Nat)] w fun e w' => e = .returned (.string (bs (internalL k q))) ∧ Below w.heap.size w w' := by
  have hx2 : 18446744073709551615 - q < 256 ^ 8 := by
    have : (256 : Nat) ^ 8 = 18446744073709551616 := by decide
    omega
  have hI : internalL k q = strKey k ++ bigL (18446744073709551615 - q) 8 := rfl
  have hsub : (18446744073709551615 : Int) - ((q : Nat) : Int) = ((18446744073709551615 - q : Nat) : Int) := by omega
  have hwr : IntKind.u64.wrap (((18446744073709551615 - q : Nat) : Nat) : Int) = ((18446744073709551615 - q : Nat) : Int) := by rw [IntKind.wrap_u64]; omega
  have hbg := Lib.hid (RBig_any (18446744073709551615 - q) 8 w (by decide) (by decide) hx2)
  have hel := escL_len k
  generalize 18446744073709551615 - q = m at *
  have hone := Lib.hid fun W => ROne_str k W hk
  have hsl : (bs (strKey k)).size = (escL k).length + 3 := by rw [bs_size]; simp [strKey]
  have hql : (bs (bigL m 8)).size = 8 := by rw [bs_size, bigL_len]
  replace hI := Lib.hid hI
  clear hx2
  go_enter Tryd.func19, Tryd.ntmps19
  go_wp2_with fail
  refine hbg.out.mono ?_
  rintro e w1 ⟨rfl, hb1⟩
  go_wp2_with fail
  refine (hone.out _).mono ?_
  rintro e w2 ⟨rfl, hb2⟩
  go_wp2_with fail
  go_ret
  refine ⟨?_, hb1.trans (hb2.mono hb1.size)⟩
  rw [hI.out, ← bs_append]
  rfl
def aheadE (a b : Ent) : Bool := if a.key = b.key then decide (b.seq < a.seq) else lessL a.key b.key
theorem aheadE_less {a b : Ent} (ha : a.seq ≤ 18446744073709551615) (hb : b.seq ≤ 18446744073709551615) : aheadE a b = lessL (rowK a) (rowK b) := by
  have h := @internal_less a.key b.key a.seq b.seq ha hb
  unfold aheadE
  rw [Bool.eq_iff_iff]
  unfold rowK
  rw [h]
  by_cases hk : a.key = b.key
  · rw [if_pos hk, hk]
    simp [less_irrefl]
  · rw [if_neg hk]
    simp [hk]
set_option maxRecDepth 100000 in
set_option maxHeartbeats 1000000 in
theorem RAhead_any (a b : Ent) (w : World) :
    Calls Tryd.prog 49 #[.agg (entC a), .agg (entC b)] w fun e w' => e = .returned (.bool (aheadE a b)) ∧ Below w.heap.size w w' := by
  have hA : Below w.heap.size w ((w.alloc (.cells (entC a) 33)).alloc (.cells (entC b) 33)) := ((Below.refl _ _).alloc (Nat.le_refl _) _).alloc (by rw [World.size_alloc]; omega) _
  unfold entC at hA ⊢
  by_cases hk : a.key = b.key
  · have hkb : ((bs a.key).toList == (bs b.key).toList) = true := by rw [hk]; simp
    have hke : (bs a.key).toList = (bs b.key).toList := by rw [hk]
    have hR : aheadE a b = decide (b.seq < a.seq) := by unfold aheadE; rw [if_pos hk]
    by_cases hq : b.seq < a.seq
    · have hqi : ((b.seq : Nat) : Int) < ((a.seq : Nat) : Int) := by omega
      have hR2 : aheadE a b = true := by rw [hR]; simpa using hq
      replace hR := Lib.hid hR
      replace hR2 := Lib.hid hR2
      replace hk := Lib.hid hk
      go_enter Tryd.func49, Tryd.ntmps49
      go_wp2_with fail
      go_ret
      exact ⟨by rw [hR2.out]; rfl, hA⟩
    · have hqi : ¬ ((b.seq : Nat) : Int) < ((a.seq : Nat) : Int) := by omega
      have hR2 : aheadE a b = false := by rw [hR]; simpa using hq
      replace hR := Lib.hid hR
      replace hR2 := Lib.hid hR2
      replace hk := Lib.hid hk
      go_enter Tryd.func49, Tryd.ntmps49
      go_wp2_with fail
      go_ret
      exact ⟨by rw [hR2.out]; rfl, hA⟩
  · have hkb : ((bs a.key).toList == (bs b.key).toList) = false := by rw [bs_toList, bs_toList]; simpa using hk
    have hke : ¬ (bs a.key).toList = (bs b.key).toList := by rw [bs_toList, bs_toList]; exact hk
    have hR : aheadE a b = lessL a.key b.key := by unfold aheadE; rw [if_neg hk]
    cases hq : lessL a.key b.key
    · have hl : Op.bytesLess (bs a.key).toList (bs b.key).toList = false := by rw [bs_toList, bs_toList]; exact hq
      rw [hq] at hR
      replace hR := Lib.hid hR
      replace hk := Lib.hid hk
      replace hq := Lib.hid hq
      go_enter Tryd.func49, Tryd.ntmps49
      go_wp2_with fail
      go_ret
      exact ⟨by rw [hR.out]; rfl, hA⟩
    · have hl : Op.bytesLess (bs a.key).toList (bs b.key).toList = true := by rw [bs_toList, bs_toList]; exact hq
      rw [hq] at hR
      replace hR := Lib.hid hR
      replace hk := Lib.hid hk
      replace hq := Lib.hid hq
      go_enter Tryd.func49, Tryd.ntmps49
      go_wp2_with fail
      go_ret
      exact ⟨by rw [hR.out]; rfl, hA⟩
/-- A row of two texts, az a value. -/
def rowC (r : L × L) : Array Value := #[.string (bs r.1), .string (bs r.2)]
set_option maxRecDepth 100000 in
set_option maxHeartbeats 1000000 in
theorem R12four_any (n : Nat) (w : World) (hn : n < 4294967296) :
    Calls Tryd.prog 74 #[.int .i64 (n : Nat)] w fun e w' => e = .returned (.string (bs (bigL n 4))) ∧ Below w.heap.size w w' := by
  have hbg := Lib.hid (RBig_any n 4 w (by decide) (by decide) (by have : (256 : Nat) ^ 4 = 4294967296 := by decide
                                                                  omega))
  have hw : IntKind.u64.wrap ((n : Nat) : Int) = (n : Nat) := by rw [IntKind.wrap_u64]; omega
  go_enter Tryd.func74, Tryd.ntmps74
  go_wp2_with fail
  refine hbg.out.mono ?_
  rintro e w1 ⟨rfl, hb1⟩
  go_wp2_with fail
  go_ret
  exact ⟨rfl, hb1⟩
theorem bigL_four (n : Nat) : bigL n 4 = [UInt8.ofNat (n / 16777216), UInt8.ofNat (n / 65536), UInt8.ofNat (n / 256), UInt8.ofNat n] := by
  rw [bigL_snoc, bigL_snoc, bigL_snoc, bigL_snoc]
  simp only [bigL, Nat.div_div_eq_div_mul, List.nil_append, List.cons_append]
theorem u8w (n : Nat) : IntKind.u8.wrap ((n : Nat) : Int) = (((UInt8.ofNat n).toNat : Nat) : Int) := by
  rw [IntKind.wrap_u8, UInt8.toNat_ofNat']
  omega
set_option maxRecDepth 100000 in
set_option maxHeartbeats 1000000 in
theorem R11four_any (n : Nat) (w : World) (hn : n < 4611686018427387904) :
    Calls Tryd.prog 84 #[.int .i64 (n : Nat)] w fun e w' => e = .returned (.string (bs (bigL n 4))) ∧ Below w.heap.size w w' := by
  have h1 : ((n : Nat) : Int) / 16777216 = ((n / 16777216 : Nat) : Int) := by omega
  have h2 : ((n : Nat) : Int) / 65536 = ((n / 65536 : Nat) : Int) := by omega
  have h3 : ((n : Nat) : Int) / 256 = ((n / 256 : Nat) : Int) := by omega
  have g1 := u8w (n / 16777216)
  have g2 := u8w (n / 65536)
  have g3 := u8w (n / 256)
  have g4 := u8w n
  have hbf := bigL_four n
  generalize UInt8.ofNat (n / 16777216) = x1 at *
  generalize UInt8.ofNat (n / 65536) = x2 at *
  generalize UInt8.ofNat (n / 256) = x3 at *
  generalize UInt8.ofNat n = x4 at *
  generalize n / 16777216 = n1 at *
  generalize n / 65536 = n2 at *
  generalize n / 256 = n3 at *
  have hcv := conv_back (w := w.alloc (.cells #[.int .u8 (x1.toNat : Nat), .int .u8 (x2.toNat : Nat), .int .u8 (x3.toNat : Nat), .int .u8 (x4.toNat : Nat)] 5)) (g := w.heap.size) (cap := 4) (l := [x1, x2, x3, x4]) (fun j hj => by
    have hB := (Blk.new w 5 #[.int .u8 (x1.toNat : Nat), .int .u8 (x2.toNat : Nat), .int .u8 (x3.toNat : Nat), .int .u8 (x4.toNat : Nat)]).cell j
    rw [hB]
    simp at hj
    match j, hj with
    | 0, _ => rfl
    | 1, _ => rfl
    | 2, _ => rfl
    | 3, _ => rfl)
  simp only [List.length_cons, List.length_nil, Nat.zero_add, Nat.reduceAdd] at hcv
  replace hbf := Lib.hid hbf
  have hA : Below w.heap.size w (w.alloc (.cells #[.int .u8 (x1.toNat : Nat), .int .u8 (x2.toNat : Nat), .int .u8 (x3.toNat : Nat), .int .u8 (x4.toNat : Nat)] 5)) := (Below.refl _ _).alloc (Nat.le_refl _) _
  go_enter Tryd.func84, Tryd.ntmps84
  go_wp2_with fail
  go_ret
  exact ⟨by rw [hbf.out]; rfl, hA⟩
def crcPoly : Nat := 3988292384
def bit1 (s : Nat) : Nat := s / 2 ^^^ (if s % 2 = 1 then crcPoly else 0)
def bitR (r c : Nat) : Nat → Nat
  | 0 => r
  | k + 1 => bitR r c k / 2 ^^^ (if (bitR r c k ^^^ c / 2 ^ k) % 2 = 1 then crcPoly else 0)
theorem half_xor (a b : Nat) : (a ^^^ b) / 2 = a / 2 ^^^ b / 2 := by
  have := Nat.shiftRight_xor_distrib (a := a) (b := b) (i := 1)
  simpa [Nat.shiftRight_eq_div_pow] using this
theorem odd_xor (a b : Nat) : (a ^^^ b) % 2 = (a % 2 + b % 2) % 2 := by
  have h := Nat.testBit_xor (x := a) (y := b) (i := 0)
  simp only [Nat.testBit_zero] at h
  have ha := Nat.mod_two_eq_zero_or_one a
  have hb := Nat.mod_two_eq_zero_or_one b
  have hc := Nat.mod_two_eq_zero_or_one (a ^^^ b)
  rcases ha with ha | ha <;> rcases hb with hb | hb <;> rcases hc with hc | hc <;> simp_all
theorem bit1_xor (a b : Nat) : bit1 (a ^^^ b) = bit1 a ^^^ bit1 b := by
  unfold bit1
  rw [half_xor, odd_xor]
  have ha := Nat.mod_two_eq_zero_or_one a
  have hb := Nat.mod_two_eq_zero_or_one b
  have hl : ∀ x y z : Nat, x ^^^ (y ^^^ z) = y ^^^ (x ^^^ z) := by
    intro x y z
    rw [← Nat.xor_assoc, Nat.xor_comm x y, Nat.xor_assoc]
  have hs : ∀ x y : Nat, x ^^^ (x ^^^ y) = y := by intro x y; rw [← Nat.xor_assoc]; simp
  rcases ha with ha | ha <;> rcases hb with hb | hb <;> rw [ha, hb] <;> simp [Nat.xor_assoc, Nat.xor_comm, hl, hs]
def bit4 (s : Nat) : Nat := bit1 (bit1 (bit1 (bit1 s)))
theorem bit1_double (h : Nat) : bit1 (2 * h) = h := by
  unfold bit1
  rw [if_neg (by omega), Nat.xor_zero]
  omega
theorem bit4_16 (h : Nat) : bit4 (16 * h) = h := by
  unfold bit4
  rw [show 16 * h = 2 * (2 * (2 * (2 * h))) from by omega, bit1_double, bit1_double, bit1_double, bit1_double]
theorem bit4_low : ∀ l : Fin 16, bit4 l.val = crcT l.val := by decide
theorem split16 (s : Nat) : s = 16 * (s / 16) ^^^ s % 16 := by
  have h := Nat.two_pow_add_eq_or_of_lt (i := 4) (b := s % 16) (Nat.mod_lt _ (by decide)) (s / 16)
  have h2 : 2 ^ 4 * (s / 16) ||| s % 16 = 2 ^ 4 * (s / 16) ^^^ s % 16 := by
    apply Nat.eq_of_testBit_eq
    intro i
    rw [Nat.testBit_or, Nat.testBit_xor]
    by_cases hi : i < 4
    · have : (2 ^ 4 * (s / 16)).testBit i = false := by rw [Nat.testBit_two_pow_mul]; simp; omega
      rw [this]
      simp
    · have : (s % 16).testBit i = false := Nat.testBit_lt_two_pow (Nat.lt_of_lt_of_le (Nat.mod_lt _ (by decide)) (show 16 ≤ 2 ^ i from by have := Nat.pow_le_pow_right (show 0 < 2 by decide) (show 4 ≤ i by omega); simpa using this))
      rw [this]
      simp
  rw [show (16 : Nat) = 2 ^ 4 from rfl] at *
  rw [← h2, ← h]
  omega
theorem nib_bit4 (s : Nat) : crcNib s = bit4 s := by
  have h := split16 s
  have e : bit4 s = bit4 (16 * (s / 16)) ^^^ bit4 (s % 16) := by
    conv => lhs; rw [h]
    unfold bit4
    rw [bit1_xor, bit1_xor, bit1_xor, bit1_xor]
  rw [e, bit4_16]
  unfold crcNib
  rw [bit4_low ⟨s % 16, Nat.mod_lt _ (by decide)⟩]
theorem bitR_s (r c : Nat) : ∀ k, bitR r c (k + 1) ^^^ c / 2 ^ (k + 1) = bit1 (bitR r c k ^^^ c / 2 ^ k) := by
  intro k
  have e : c / 2 ^ (k + 1) = c / 2 ^ k / 2 := by rw [Nat.div_div_eq_div_mul, Nat.pow_succ]
  unfold bit1
  rw [half_xor, e]
  show bitR r c k / 2 ^^^ _ ^^^ _ = _
  generalize (if (bitR r c k ^^^ c / 2 ^ k) % 2 = 1 then crcPoly else 0) = p
  rw [Nat.xor_assoc, Nat.xor_comm p, ← Nat.xor_assoc]
theorem bitR_8 (r : Nat) (c : UInt8) : bitR r c.toNat 8 = crcByte r c := by
  have h8 := bitR_s r c.toNat 7
  have h7 := bitR_s r c.toNat 6
  have h6 := bitR_s r c.toNat 5
  have h5 := bitR_s r c.toNat 4
  have h4 := bitR_s r c.toNat 3
  have h3 := bitR_s r c.toNat 2
  have h2 := bitR_s r c.toNat 1
  have h1 := bitR_s r c.toNat 0
  have hz : c.toNat / 2 ^ (7 + 1) = 0 := Nat.div_eq_of_lt c.toNat_lt
  rw [hz, Nat.xor_zero] at h8
  rw [h8, h7, h6, h5, h4, h3, h2, h1, Nat.pow_zero, Nat.div_one]
  show bit4 (bit4 (r ^^^ c.toNat)) = _
  unfold crcByte
  rw [nib_bit4, nib_bit4]
theorem bitR_lt {r c : Nat} (hr : r < 4294967296) : ∀ k, bitR r c k < 4294967296
  | 0 => hr
  | k + 1 => by
    have ih := bitR_lt (c := c) hr k
    show bitR r c k / 2 ^^^ _ < _
    refine xor_lt (by omega) ?_
    split <;> decide
set_option maxRecDepth 100000 in
set_option maxHeartbeats 2000000 in
theorem RCrc_any (s : L) (w : World) (hs : s.length ≤ 1099511627776) :
    Calls Tryd.prog 75 #[.string (bs s)] w fun e w' => e = .returned (.int .u32 (crcL s : Nat)) ∧ Below w.heap.size w w' := by
  have hss : (bs s).size = s.length := bs_size _
  obtain ⟨w0, hw0⟩ : ∃ w0, w0 = w := ⟨_, rfl⟩
  rw [← hw0]
  clear hw0 w
  go_enter Tryd.func75, Tryd.ntmps75
  go_wp2_with fail
  go_loopw [3, 4] (fun rv iv wr => ∃ i, i ≤ s.length ∧ iv = .int .i64 (i : Nat) ∧ rv = .int .u32 (crcSum (s.take i) : Nat) ∧ wr = w0) (fun _ iv _ => s.length - (intOf iv).toNat)
  case atStart => exact ⟨0, Nat.zero_le _, rfl, rfl, rfl⟩
  case round =>
    obtain ⟨i, hi, rfl, rfl, hw⟩ := hrel
    subst hw
    by_cases hil : i < s.length
    · have hil' : ((i : Nat) : Int) < (s.length : Nat) := by omega
      have hsn : crcSum (s.take (i + 1)) = crcByte (crcSum (s.take i)) s[i] := by
        rw [List.take_succ_eq_append_getElem hil]
        unfold crcSum
        rw [List.foldl_append]
        rfl
      have hlt : crcSum (s.take i) < 4294967296 := crcFold_lt _ (by decide)
      have hix : ((bs s)[i]'(by rw [hss]; exact hil)) = s[i] := by simp [bs, ByteArray.getElem_eq_getElem_data]
      have hib : ((i : Nat) : Int) < ((bs s).size : Nat) := by rw [hss]; exact hil'
      have hcl := (s[i]).toNat_lt
      generalize hc : s[i] = c at *
      replace hc := Lib.hid hc
      have h8 := bitR_8 (crcSum (s.take i)) c
      generalize hr0 : crcSum (s.take i) = r0 at *
      replace hr0 := Lib.hid hr0
      replace hsn := Lib.hid hsn
      go_wp2_with fail
      go_loopw [3, 5] (fun rv kv wq => ∃ k, k ≤ 8 ∧ kv = .int .i64 (k : Nat) ∧ rv = .int .u32 (bitR r0 c.toNat k : Nat) ∧ wq = wr) (fun _ kv _ => 8 - (intOf kv).toNat)
      case atStart => exact ⟨0, by omega, rfl, rfl, rfl⟩
      case round =>
        obtain ⟨k, hk, rfl, rfl, hw⟩ := hrel
        subst hw
        by_cases hk8 : k < 8
        · have hk8' : ((k : Nat) : Int) < 8 := by omega
          have hrl := bitR_lt (c := c.toNat) hlt k
          have hst : bitR r0 c.toNat (k + 1) = bitR r0 c.toNat k / 2 ^^^ (if (bitR r0 c.toNat k ^^^ c.toNat / 2 ^ k) % 2 = 1 then crcPoly else 0) := rfl
          generalize bitR r0 c.toNat k = p at *
          obtain ⟨q, hq⟩ : ∃ q, q = c.toNat / 2 ^ k := ⟨_, rfl⟩
          have hql : q < 4294967296 := by have : q ≤ c.toNat := by rw [hq]; exact Nat.div_le_self _ _
                                          omega
          have hqi : ((c.toNat : Nat) : Int) / 2 ^ k = ((q : Nat) : Int) := by rw [hq]; simp
          rw [← hq] at hst
          replace hq := Lib.hid hq
          have hxor := u32_xor_nat p q hrl hql
          have hxl := xor_lt hrl hql
          generalize p ^^^ q = x at *
          have hand : bits .and .u32 ((x : Nat) : Int) 1 = ((x % 2 : Nat) : Int) := by
            have h1 := u32_and_nat x 1 hxl (by decide)
            rw [Nat.and_one_is_mod] at h1
            exact h1
          have hm2 := Nat.mod_two_eq_zero_or_one x
          by_cases hx1 : x % 2 = 1
          · rw [if_pos hx1] at hst
            have hxb : (((x % 2 : Nat) : Int) == 1) = true := by rw [hx1]; rfl
            have hpx : bits .xor .u32 ((p / 2 : Nat) : Int) 3988292384 = ((p / 2 ^^^ 3988292384 : Nat) : Int) := u32_xor_nat (p / 2) 3988292384 (by omega) (by decide)
            have hp2 : ((p : Nat) : Int) / 2 = ((p / 2 : Nat) : Int) := by omega
            have hx1i : ((x % 2 : Nat) : Int) = 1 := by omega
            rw [show (p / 2 ^^^ crcPoly) = p / 2 ^^^ 3988292384 from rfl] at hst
            generalize p / 2 ^^^ 3988292384 = y at *
            generalize p / 2 = p2 at *
            replace hx1 := Lib.hid hx1
            replace hst := Lib.hid hst
            go_wp2_with fail
            refine ⟨⟨k + 1, by omega, by go_num, ?_, trivial⟩, by first | omega | (simp only [intOf]; omega)⟩
            rw [hst.out]
          · rw [if_neg hx1, Nat.xor_zero] at hst
            have hx0 : x % 2 = 0 := by omega
            have hxb : (((x % 2 : Nat) : Int) == 1) = false := by rw [hx0]; rfl
            have hp2 : ((p : Nat) : Int) / 2 = ((p / 2 : Nat) : Int) := by omega
            have hx1i : ((x % 2 : Nat) : Int) = 0 := by omega
            generalize p / 2 = p2 at *
            replace hx1 := Lib.hid hx1
            replace hx0 := Lib.hid hx0
            replace hst := Lib.hid hst
            go_wp2_with fail
            refine ⟨⟨k + 1, by omega, by go_num, ?_, trivial⟩, by first | omega | (simp only [intOf]; omega)⟩
            rw [hst.out]
        · obtain rfl : k = 8 := by omega
          rw [h8]
          clear h8
          go_wp2_with fail
          refine ⟨⟨i + 1, by omega, by go_num, ?_, trivial⟩, by first | omega | (simp only [intOf]; omega)⟩
          rw [hsn.out]
    · obtain rfl : i = s.length := by omega
      have hil' : ¬ ((s.length : Nat) : Int) < (s.length : Nat) := by omega
      rw [List.take_length]
      have hl := crcFold_lt s (s := 4294967295) (by decide)
      have hx : bits .xor .u32 ((crcSum s : Nat) : Int) 4294967295 = ((crcSum s ^^^ 4294967295 : Nat) : Int) := u32_xor_nat (crcSum s) 4294967295 hl (by decide)
      have hR : crcL s = crcSum s ^^^ 4294967295 := Nat.xor_comm _ _
      rw [← hR] at hx
      replace hR := Lib.hid hR
      go_wp2_with fail
      go_ret
      exact ⟨rfl, Below.refl _ _⟩
section
variable {P : Program} {Q : Exit → Act → World → Prop}
def OpT3 (P : Program) (a0 : Act) (l : List Oper) (J : (Nat → Bool) → (Nat → Value) → World → Prop) (τ : Nat → Value → World → Prop) (us0 : Nat → Value) (i : Nat) (o : Oper) : Prop :=
  ∀ (d : Nat → Bool) (us : Nat → Value) (w : World), d i = false → J d us w → (∀ k, (∃ e, e ∈ o.after ∧ Region.binds .any e = true ∧ e.on = k) → d k = true ∧ τ k (us k) w) → (∀ k, laterB l i l.length k = true → d k = false ∧ us k = us0 k) → us i = us0 i →
    (Region.wanted o (yielded l.toArray (putAll 0 l us a0).tmps) = true ∧
      ∀ (K : Act → World → Prop) (Q : Exit → Act → World → Prop), (∀ v w', J (setD d i) (updU us i v) w' → τ i v w' → (∀ k u, k ≠ i → τ k u w → τ k u w') → K ((putAll 0 l us a0).put o.dst v) w') → o.wp P (putAll 0 l us a0) w K Q) ∨
    (¬ Region.wanted o (yielded l.toArray (putAll 0 l us a0).tmps) = true ∧ J (setD d i) (updU us i undef) w ∧ τ i undef w)
theorem wp_region_task3 {id : Nat} {a0 : Act} {w0 : World} {l : List Oper} (J : (Nat → Bool) → (Nat → Value) → World → Prop) (τ : Nat → Value → World → Prop) (us0 : Nat → Value)
    (hm : P.follows .mixedOrders = true) (hb : backB l = true)
    (hap : apartB l = true)
    (h0 : putAll 0 l us0 a0 = a0)
    (hst : J (fun _ => false) us0 w0.drew)
    (hop : AllOps (OpT3 P a0 l J τ us0) 0 l)
    (hend : ∀ d us w, J d us w → (∀ i, i < l.length → d i = true ∧ τ i (us i) w) → Q .normal (putAll 0 l us a0) w) : (Code.region id l.toArray true).wp P Q a0 w0 := by
  refine wp_region_inv (fun d us w => J d us w ∧ Shut l d ∧ (∀ k, d k = true → τ k (us k) w) ∧ (∀ k, d k = false → us k = us0 k)) us0 hm hb hap h0 ⟨hst, (fun _ _ _ h => (by cases h)), (fun _ h => (by cases h)), fun _ _ => rfl⟩ ?_ (fun d us w hI hd => hend d us w hI.1 (fun i hi => ⟨hd i hi, hI.2.2.1 i (hd i hi)⟩))
  have shut : ∀ (i : Nat) (o : Oper) (d : Nat → Bool), l[i]? = some o → Shut l d → (∀ k, (∃ e, e ∈ o.after ∧ Region.binds .any e = true ∧ e.on = k) → d k = true) → Shut l (setD d i) := by
    intro i o d hl hs hp k o' ho' hk e he hbd
    unfold setD at hk ⊢
    by_cases hon : e.on = i
    · rw [if_pos hon]
    · rw [if_neg hon]
      by_cases hki : k = i
      · subst hki
        rw [hl] at ho'
        injection ho' with ho'
        subst ho'
        exact hp _ ⟨e, he, hbd, rfl⟩
      · rw [if_neg hki] at hk
        exact hs k o' ho' hk e he hbd
  have conv : ∀ (ll : List Oper) (k : Nat), (∀ j o, ll[j]? = some o → l[k + j]? = some o) → AllOps (OpT3 P a0 l J τ us0) k ll → AllOps (OpInv P a0 l (fun d us w => J d us w ∧ Shut l d ∧ (∀ k, d k = true → τ k (us k) w) ∧ (∀ k, d k = false → us k = us0 k))) k ll := by
    intro ll
    induction ll with
    | nil => exact fun _ _ _ => trivial
    | cons o ll ih =>
      rintro k hat ⟨h1, h2⟩
      refine ⟨?_, ih (k + 1) (fun j o' h => by have := hat (j + 1) o' (by simpa using h); rwa [show k + (j + 1) = k + 1 + j from by omega] at this) h2⟩
      rintro d us w ⟨hJ, hs, ht, hu⟩ hd hp us' rfl
      have hlk : l[k]? = some o := by simpa using hat 0 o (by simp)
      have hs' := shut k o d hlk hs hp
      rcases h1 d us' w hd hJ (fun j hj => ⟨hp j hj, ht j (hp j hj)⟩) (fun j hj => have := laterB_not hs hd _ _ hj; ⟨this, hu j this⟩) (hu k hd) with ⟨hw, h⟩ | ⟨hw, hJ', ht'⟩
      · refine .inl ⟨hw, fun K Q hK => h K Q fun v w' hj hv hmono => hK v w' ⟨hj, hs', fun j hj => ?_, fun j hj => ?_⟩⟩
        · unfold setD at hj
          unfold updU
          by_cases hjk : j = k
          · subst hjk; rw [if_pos rfl]; exact hv
          · rw [if_neg hjk] at hj ⊢; exact hmono _ _ hjk (ht j hj)
        · unfold setD at hj
          unfold updU
          by_cases hjk : j = k
          · rw [if_pos hjk] at hj; cases hj
          · rw [if_neg hjk] at hj ⊢; exact hu j hj
      · refine .inr ⟨hw, hJ', hs', fun j hj => ?_, fun j hj => ?_⟩
        · unfold setD at hj
          unfold updU
          by_cases hjk : j = k
          · subst hjk; rw [if_pos rfl]; exact ht'
          · rw [if_neg hjk] at hj ⊢; exact ht j hj
        · unfold setD at hj
          unfold updU
          by_cases hjk : j = k
          · rw [if_pos hjk] at hj; cases hj
          · rw [if_neg hjk] at hj ⊢; exact hu j hj
  exact conv l 0 (fun j o h => by simpa using h) hop
end
/-- Memory has grown; and the block that operation ia has made holds e once operation iz is done. -/
def AJ (w0 : World) (ia iz : Nat) (T : TypeId) (z e : Array Value) (d : Nat → Bool) (us : Nat → Value) (w : World) : Prop :=
  Below w0.heap.size w0 w ∧ (d ia = true → ∃ b, us ia = .pointer (some ⟨b, 0, none⟩) ∧ w0.heap.size ≤ b ∧ Blk w b T (if d iz = true then e else z))
section
variable {w0 w w' : World} {ia iz : Nat} {T : TypeId} {z e : Array Value} {d : Nat → Bool} {us : Nat → Value}
theorem AJ.start (hne : ia ≠ iz) : AJ w0 ia iz T z e (fun _ => false) us w0.drew := ⟨(Below.refl _ _).drew, fun h => by cases h⟩
theorem AJ.cell (h : AJ w0 ia iz T z e d us w) {b o : Nat} {v : Value} (hb : b < w0.heap.size) (hc : w0.cell? ⟨b, o, none⟩ = some v) : w.cell? ⟨b, o, none⟩ = some v := (h.1.cell (p := ⟨b, o, none⟩) hb).trans hc
theorem AJ.other (h : AJ w0 ia iz T z e d us w) (i : Nat) (h1 : i ≠ ia) (h2 : i ≠ iz) {v : Value} : AJ w0 ia iz T z e (setD d i) (updU us i v) w := by
  refine ⟨h.1, fun hd => ?_⟩
  unfold setD at hd ⊢
  unfold updU
  rw [if_neg (Ne.symm h1)] at hd
  rw [if_neg (Ne.symm h1), if_neg (Ne.symm h2)]
  exact h.2 hd
theorem AJ.grow (h : AJ w0 ia iz T z e d us w) (hb : Below w.heap.size w w') : AJ w0 ia iz T z e d us w' := by
  refine ⟨h.1.trans (hb.mono h.1.size), fun hd => ?_⟩
  obtain ⟨b, h1, h2, h3⟩ := h.2 hd
  exact ⟨b, h1, h2, h3.below hb h3.lt⟩
theorem AJ.made (h : AJ w0 ia iz T z e d us w) (hne : ia ≠ iz) (hz : d iz = false) : AJ w0 ia iz T z e (setD d ia) (updU us ia (.pointer (some ⟨w.heap.size, 0, none⟩))) (w.alloc (.cells z T)) := by
  refine ⟨h.1.alloc h.1.size _, fun _ => ⟨w.heap.size, by unfold updU; rw [if_pos rfl], h.1.size, ?_⟩⟩
  unfold setD
  rw [if_neg (Ne.symm hne), if_neg (by rw [hz]; decide)]
  exact Blk.new _ _ _
theorem AJ.at_ (h : AJ w0 ia iz T z e d us w) (hd : d ia = true) (hz : d iz = false) : ∃ b, us ia = .pointer (some ⟨b, 0, none⟩) ∧ w0.heap.size ≤ b ∧ Blk w b T z := by
  have := h.2 hd
  rw [if_neg (by rw [hz]; decide)] at this
  exact this
theorem AJ.stored (h : AJ w0 ia iz T z e d us w) (hne : ia ≠ iz) {b : Nat} (hu : us ia = .pointer (some ⟨b, 0, none⟩)) (hb : w0.heap.size ≤ b) (hw : Below w0.heap.size w0 w') (hx : Blk w' b T e) {v : Value} : AJ w0 ia iz T z e (setD d iz) (updU us iz v) w' := by
  refine ⟨hw, fun hd => ⟨b, ?_, hb, ?_⟩⟩
  · unfold updU
    rw [if_neg hne]
    exact hu
  · unfold setD
    rw [if_pos rfl, if_pos rfl]
    exact hx
theorem AJ.end_ (h : AJ w0 ia iz T z e d us w) (h1 : d ia = true) (h2 : d iz = true) : Below w0.heap.size w0 w ∧ ∃ b, us ia = .pointer (some ⟨b, 0, none⟩) ∧ w0.heap.size ≤ b ∧ Blk w b T e := by
  have := h.2 h1
  rw [if_pos h2] at this
  exact ⟨h.1, this⟩
end
end Go.Proofs.YtfnlponoakhegaaDoor
