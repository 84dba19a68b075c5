/- The laws' own functions: Great, GreatEntries, Same. The laws' own functions: Same of alike rows, taken. The sum turns where one byte turns. No program in sight. Package table, plain: a turned byte. TableTurned. A law's row, whatever its parameters: what a walk that leaves old memory as it was gives, and how the row closes. A change's row whose call may read package variables: what the world is shaped like, too. Chapter 12's rows: what globals say; a row of entries that came in, opened. -/
import Derived.Test.YtfnlponoakhegaaDoorTAwWJ
import Derived.Test.YtfnlponoakhegaaDoorM01
import Derived.Test.YtfnlponoakhegaaDoorM20
import Derived.Test.YtfnlponoakhegaaDoorRows
import Derived.WalkKit
import Derived.ProofKit
import Derived.OpenShut
import Derived.JoinedCond
import Derived.Carry
import Derived.Lib.SmallJoins
import Derived.Deep.Slices
import Derived.Deep.Fields
import Derived.ChangeSame
import Derived.Handed
import Derived.HandedShaped
import Derived.LaidMore
import Derived.Lay
import Derived.SevenTiedAt
import Derived.Stop.Joined
namespace Go.Proofs.YtfnlponoakhegaaDoor
open Go.RowKit
set_option linter.unusedVariables false
set_option linter.unusedSimpArgs false
structure ActE where
  d : Nat
  e : Ent
def actC (a : ActE) : List Value := [.int .u8 (a.d : Nat), .string (bs a.e.key), .string (bs a.e.value), .int .u64 (a.e.seq : Nat), .bool a.e.gone]
def actsC (l : List ActE) : List Value := (l.map actC).flatten
theorem actsC_app (a b : List ActE) : actsC (a ++ b) = actsC a ++ actsC b := by simp [actsC]
theorem actsC_one (a : ActE) : actsC [a] = [.int .u8 (a.d : Nat), .string (bs a.e.key), .string (bs a.e.value), .int .u64 (a.e.seq : Nat), .bool a.e.gone] := rfl
theorem actsC_at : ∀ (l : List ActE) (i : Nat) (a : ActE), l[i]? = some a → (actsC l)[i * 5]? = some (.int .u8 (a.d : Nat)) ∧ (actsC l)[i * 5 + 1]? = some (.string (bs a.e.key)) ∧ (actsC l)[i * 5 + 2]? = some (.string (bs a.e.value)) ∧ (actsC l)[i * 5 + 3]? = some (.int .u64 (a.e.seq : Nat)) ∧ (actsC l)[i * 5 + 4]? = some (.bool a.e.gone)
  | [], i, a, h => by simp at h
  | x :: l, 0, a, h => by simp at h; subst h; exact ⟨rfl, rfl, rfl, rfl, rfl⟩
  | x :: l, i + 1, a, h => by
    have ih := actsC_at l i a (by simpa using h)
    have e1 : actsC (x :: l) = .int .u8 (x.d : Nat) :: .string (bs x.e.key) :: .string (bs x.e.value) :: .int .u64 (x.e.seq : Nat) :: .bool x.e.gone :: actsC l := rfl
    rw [e1, show (i + 1) * 5 = i * 5 + 1 + 1 + 1 + 1 + 1 from by omega]
    simpa using ih
def greatR : List Ent → Nat → Bool
  | [], n => decide (8000 < n)
  | e :: r, n => if 8000 < e.key.length ∨ 8000 < e.value.length then true else greatR r (n + e.key.length + e.value.length)
theorem greatR_cons (e : Ent) (r : List Ent) (n : Nat) : greatR (e :: r) n = if 8000 < e.key.length ∨ 8000 < e.value.length then true else greatR r (n + e.key.length + e.value.length) := rfl
def greatP (l : List Ent) : Bool := if 100 < l.length then true else greatR l 0
theorem greatR_not : ∀ (l : List Ent) (n : Nat), greatR l n = false → n + entSz l ≤ 8000
  | [], n, h => by
    unfold greatR at h
    simp at h
    simp [entSz]
    omega
  | e :: r, n, h => by
    unfold greatR at h
    split at h
    · cases h
    · have := greatR_not r _ h
      unfold entSz at this ⊢
      simp only [List.map_cons, List.sum_cons]
      omega
theorem greatP_not {l : List Ent} (h : greatP l = false) : l.length ≤ 100 ∧ entSz l ≤ 8000 := by
  unfold greatP at h
  split at h
  · cases h
  · have := greatR_not l 0 h
    exact ⟨by omega, by omega⟩
set_option maxRecDepth 100000 in
set_option maxHeartbeats 1000000 in
theorem Great_any (A : Option Addr) (l : List ActE) (cap : Nat) (w : World) (hr : Reads w w.heap.size 5 A l.length (actsC l)) (hl : l.length ≤ 9223372036854775807) (hs : ∀ a ∈ l, a.e.key.length ≤ 9223372036854775807 ∧ a.e.value.length ≤ 9223372036854775807) :
    Calls Tryd.prog 18 #[.slice A l.length cap] w fun e w' => e = .returned (.bool (greatP (l.map (·.e)))) ∧ Below w.heap.size w w' := by
  by_cases h100 : 100 < l.length
  · have h100' : (100 : Int) < (l.length : Nat) := by omega
    have hP : greatP (l.map (·.e)) = true := by unfold greatP; rw [if_pos (by rw [List.length_map]; exact h100)]
    replace hP := Lib.hid hP
    go_enter Tryd.func18, Tryd.ntmps18
    go_wp2_with fail
    go_ret
    exact ⟨by rw [hP.out]; rfl, Below.refl _ _⟩
  · have h100' : ¬ (100 : Int) < (l.length : Nat) := by omega
    have hP : greatP (l.map (·.e)) = greatR (l.map (·.e)) 0 := by unfold greatP; rw [if_neg (by rw [List.length_map]; exact h100)]
    have hP2 := Lib.hid hP
    clear hP
    go_enter Tryd.func18, Tryd.ntmps18
    go_wp2_with fail
    go_loopw [3, 4] (fun nv iv wr => ∃ i n, i ≤ l.length ∧ iv = .int .i64 (i : Nat) ∧ nv = .int .i64 (n : Nat) ∧ n ≤ 16000 * i ∧ greatR (l.map (·.e)) 0 = greatR ((l.drop i).map (·.e)) n ∧ Below w.heap.size w wr) (fun _ iv _ => l.length - (intOf iv).toNat)
    case atStart => exact ⟨0, 0, Nat.zero_le _, rfl, rfl, by omega, rfl, Below.refl _ _⟩
    case round =>
      obtain ⟨i, n, hi, rfl, rfl, hn, hg, hbr⟩ := hrel
      have hzr := hbr.size
      by_cases hil : i < l.length
      · have hil' : ((i : Nat) : Int) < (l.length : Nat) := by omega
        have hx := List.getElem?_eq_getElem hil
        have hdr : l.drop i = l[i] :: l.drop (i + 1) := List.drop_eq_getElem_cons hil
        rw [hdr, List.map_cons] at hg
        rw [greatR_cons] at hg
        obtain ⟨ad, rfl, hab, hcell⟩ := (hr.below hbr).2 (by omega)
        obtain ⟨q0, q1, q2, q3, q4⟩ := actsC_at l i _ hx
        obtain ⟨bb, oo, rfl⟩ := plain_cell (hcell 0 _ (actsC_at l 0 l[0] (List.getElem?_eq_getElem (by omega))).1)
        replace q1 := hcell _ _ q1
        replace q2 := hcell _ _ q2
        rw [add_off] at q1 q2
        rw [← Nat.add_assoc] at q1 q2
        have hab' : bb < wr.heap.size := Nat.lt_of_lt_of_le hab hzr
        clear hcell q0 q3 q4
        obtain ⟨s1, s2⟩ := hs _ (List.getElem_mem hil)
        replace hx := Lib.hid hx
        replace hdr := Lib.hid hdr
        generalize l[i] = a at *
        obtain ⟨ad', ek, ev, es, eg⟩ := a
        simp only at q1 q2 hg s1 s2
        have hks : (bs ek).size = ek.length := bs_size _
        have hvs : (bs ev).size = ev.length := bs_size _
        by_cases h1 : 8000 < ek.length
        · have h1' : (8000 : Int) < (ek.length : Nat) := by omega
          rw [if_pos (.inl h1)] at hg
          replace hg := Lib.hid hg
          go_wp2_with fail
          go_ret
          exact ⟨by rw [hP2.out, hg.out]; rfl, hbr⟩
        · have h1' : ¬ (8000 : Int) < (ek.length : Nat) := by omega
          by_cases h2 : 8000 < ev.length
          · have h2' : (8000 : Int) < (ev.length : Nat) := by omega
            rw [if_pos (.inr h2)] at hg
            replace hg := Lib.hid hg
            go_wp2_with fail
            go_ret
            exact ⟨by rw [hP2.out, hg.out]; rfl, hbr⟩
          · have h2' : ¬ (8000 : Int) < (ev.length : Nat) := by omega
            rw [if_neg (by rintro (h | h) <;> contradiction)] at hg
            replace hg := Lib.hid hg
            go_wp2_with fail
            have hxc := @Ext.cell
            refine wp_region_ext (by kernel_rfl) (by kernel_rfl) ?_
            repeat (go_big_quiet_step ((first | fail)))
            refine wpQuiet_nil ?_
            clear hxc
            intro wx hwx
            obtain ⟨x, hx⟩ := hwx
            have hb := x.below
            rw [← hx] at hb
            clear hx x
            go_wp2_with fail
            refine ⟨⟨i + 1, n + ek.length + ev.length, by omega, by go_num, by go_num, by omega, hg.out, hbr.trans (hb.mono hzr)⟩, by first | omega | (simp only [intOf]; omega)⟩
      · obtain rfl : i = l.length := by omega
        have hil' : ¬ ((l.length : Nat) : Int) < (l.length : Nat) := by omega
        have hg2 : greatR (l.map (·.e)) 0 = decide (8000 < n) := by rw [hg, List.drop_length]; rfl
        replace hg2 := Lib.hid hg2
        clear hg
        have hd : decide ((8000 : Int) < (n : Nat)) = decide (8000 < n) := by
          by_cases h : 8000 < n
          · have : (8000 : Int) < (n : Nat) := by omega
            simp [h, this]
          · have : ¬ (8000 : Int) < (n : Nat) := by omega
            simp [h, this]
        by_cases h8 : 8000 < n
        · have h8' : (8000 : Int) < (n : Nat) := by omega
          have hd8 : decide (8000 < n) = true := by simpa using h8
          rw [hd8] at hg2
          clear hd
          go_wp2_with fail
          go_ret
          exact ⟨by rw [hP2.out, hg2.out]; rfl, hbr⟩
        · have h8' : ¬ (8000 : Int) < (n : Nat) := by omega
          have hd8 : decide (8000 < n) = false := by simpa using h8
          rw [hd8] at hg2
          clear hd
          go_wp2_with fail
          go_ret
          exact ⟨by rw [hP2.out, hg2.out]; rfl, hbr⟩
def OwnA (w : World) (B : Nat) (v : Value) (l : List ActE) : Prop := w.ownsRow B 52 5 v l.length (actsC l)
theorem OwnA.snoc {w : World} {B : Nat} {v : Value} {l : List ActE} (o : ActE) (h : w.ownsRow B 52 5 v (l.length + 1) (actsC l ++ [.int .u8 (o.d : Nat), .string (bs o.e.key), .string (bs o.e.value), .int .u64 (o.e.seq : Nat), .bool o.e.gone])) : OwnA w B v (l ++ [o]) := by
  unfold OwnA
  rw [actsC_app, actsC_one, List.length_append]
  exact h
theorem OwnA.form {w : World} {B : Nat} {v : Value} {l : List ActE} (h : OwnA w B v l) : ∃ A cap, v = .slice A l.length cap := by
  rcases h.2 with ⟨rfl, e⟩ | ⟨g, cap, cur, rfl, _⟩
  · exact ⟨none, 0, by rw [e]⟩
  · exact ⟨_, cap, rfl⟩
theorem act_info : (Tryd.prog.info? 52).map (fun i => (i.zero, i.size, i.bytes)) = some (some (.agg #[.int .u8 0, .string ⟨#[]⟩, .string ⟨#[]⟩, .int .u64 0, .bool false]), 5, 56) := by kernel_rfl
theorem reads5 (w : World) (t : TypeId) (x y z u s : Value) : Reads (w.alloc (.cells #[x, y, z, u, s] t)) (w.heap.size + 1) 5 (some ⟨w.heap.size, 0, none⟩) 1 [x, y, z, u, s] := by
  refine ⟨rfl, fun _ => ⟨_, rfl, by simp, fun j v hv => ?_⟩⟩
  have e1 : (⟨w.heap.size, 0, none⟩ : Addr).add j = ⟨w.heap.size, j, none⟩ := by cases j <;> simp [Addr.add]
  rw [e1, World.cell?_alloc_new]
  have hj : j < 5 := by
    rcases Nat.lt_or_ge j 5 with h | h
    · exact h
    · rw [List.getElem?_eq_none (by simp; omega)] at hv; cases hv
  match j, hj with
  | 0, _ => exact hv
  | 1, _ => exact hv
  | 2, _ => exact hv
  | 3, _ => exact hv
  | 4, _ => exact hv
theorem OwnA.reads {w : World} {B : Nat} {A : Option Addr} {cap : Nat} {l : List ActE} (h : OwnA w B (.slice A l.length cap) l) : Reads w w.heap.size 5 A l.length (actsC l) := Reads.of_own h
set_option maxRecDepth 100000 in
set_option maxHeartbeats 1000000 in
theorem GreatE_any (A : Option Addr) (l : List Ent) (cap : Nat) (w : World) (hr : Reads w w.heap.size 4 A l.length (entsC l)) (hl : l.length ≤ 9223372036854775807) (hs : ∀ e ∈ l, e.key.length ≤ 9223372036854775807 ∧ e.value.length ≤ 9223372036854775807) :
    Calls Tryd.prog 22 #[.slice A l.length cap] w fun e w' => e = .returned (.bool (greatP l)) ∧ Below w.heap.size w w' := by
  obtain ⟨i0, hi0, hz0, hz1, hz2⟩ := info_parts act_info
  go_enter Tryd.func22, Tryd.ntmps22
  go_wp2_with fail
  go_loopw [3, 4] (fun vv iv wr => ∃ i, i ≤ l.length ∧ i ≤ 101 ∧ iv = .int .i64 (i : Nat) ∧ OwnA wr w.heap.size vv ((l.take i).map (ActE.mk 0)) ∧ Below w.heap.size w wr) (fun _ iv _ => l.length - (intOf iv).toNat)
  case atStart => exact ⟨0, Nat.zero_le _, by omega, rfl, World.ownsRow_nil _ _ _ 5, Below.refl _ _⟩
  case round =>
    obtain ⟨i, hi, hi1, rfl, hO, hbr⟩ := hrel
    have hzr := hbr.size
    obtain ⟨Ao, co, rfl⟩ := hO.form
    by_cases hil : i < l.length
    · have hil' : ((i : Nat) : Int) < (l.length : Nat) := by omega
      by_cases h100 : 100 < i
      · have h100' : (100 : Int) < (i : Nat) := by omega
        have hP : greatP l = true := by unfold greatP; rw [if_pos (by omega)]
        replace hP := Lib.hid hP
        go_wp2_with fail
        go_ret
        exact ⟨by rw [hP.out]; rfl, hbr⟩
      · have h100' : ¬ (100 : Int) < (i : Nat) := by omega
        have hx := List.getElem?_eq_getElem hil
        have hsn : (l.take (i + 1)).map (ActE.mk 0) = (l.take i).map (ActE.mk 0) ++ [ActE.mk 0 l[i]] := by rw [List.take_succ_eq_append_getElem hil, List.map_append]; rfl
        obtain ⟨ad, rfl, hab, hcell⟩ := (hr.below hbr).2 (by omega)
        obtain ⟨bb, oo, rfl⟩ := plain_cell (hcell 0 _ (entsC_at l 0 l[0] (List.getElem?_eq_getElem (by omega))).1)
        obtain ⟨q0, q1, q2, q3⟩ := entsC_at l i _ hx
        replace q0 := hcell _ _ q0
        replace q1 := hcell _ _ q1
        replace q2 := hcell _ _ q2
        replace q3 := hcell _ _ q3
        rw [add_off] at q0 q1 q2 q3
        rw [← Nat.add_assoc] at q1 q2 q3
        clear hcell
        replace hx := Lib.hid hx
        have htl : ((l.take i).map (ActE.mk 0)).length ≤ 100 := by rw [List.length_map, List.length_take]; omega
        generalize l[i] = eo at *
        generalize (l.take i).map (ActE.mk 0) = L at *
        have ho1 := World.ownsRow.alloc (show wr.ownsRow w.heap.size 52 5 (.slice Ao L.length co) L.length (actsC L) from hO) (.cells #[.int .u8 0, .string (bs eo.key), .string (bs eo.value), .int .u64 (eo.seq : Nat), .bool eo.gone] 52)
        have hrd := reads5 wr 52 (.int .u8 0) (.string (bs eo.key)) (.string (bs eo.value)) (.int .u64 (eo.seq : Nat)) (.bool eo.gone)
        replace ho1 := Lib.hid ho1
        replace hrd := Lib.hid hrd
        replace hsn := Lib.hid hsn
        go_wp2_with (at_builtin; refine wpList_append_any _ rfl (.tmp 13) (.tmp 19) _ rfl w.heap.size 52 i0 _ 5 56 Tryd.underlying46 hi0 hz0 hz1 hz2 rfl (by omega) _ L.length (actsC L) rfl ho1.out (wr.heap.size + 1) (some ⟨wr.heap.size, 0, none⟩) 1 1 _ rfl hrd.out (fun u hu => by simp at hu; rcases hu with rfl | rfl | rfl | rfl | rfl <;> rfl) (by unfold maxLen; omega) (by omega) (by rw [World.size_alloc]; omega) ?_)
        intro v' w2 ho2 hg2 hat2
        go_wp2_with fail
        refine ⟨⟨i + 1, by omega, by omega, by go_num, by rw [hsn.out]; exact OwnA.snoc ⟨0, eo⟩ ho2, ?_⟩, by first | omega | (simp only [intOf]; omega)⟩
        exact (hbr.alloc hzr _).grown hg2 (by rw [World.size_alloc]; omega) (fun k hk => (own_lt hO k hk).1)
    · obtain rfl : i = l.length := by omega
      have hil' : ¬ ((l.length : Nat) : Int) < (l.length : Nat) := by omega
      rw [List.take_length] at hO ⊢
      have hgr := Great_any Ao (l.map (ActE.mk 0)) co wr hO.reads (by rw [List.length_map]; exact hl) (fun a ha => by
        obtain ⟨e, he, rfl⟩ := List.mem_map.1 ha
        exact hs e he)
      rw [List.map_map] at hgr
      have hid : l.map ((fun x => x.e) ∘ ActE.mk 0) = l := by
        rw [show ((fun x => x.e) ∘ ActE.mk 0 : Ent → Ent) = id from rfl, List.map_id]
      rw [hid, List.length_map] at hgr
      replace hgr := Lib.hid hgr
      clear hid
      go_wp2_with fail
      refine hgr.out.mono ?_
      rintro e w2 ⟨rfl, hb2⟩
      go_wp2_with fail
      go_ret
      exact ⟨rfl, hbr.trans (hb2.mono hzr)⟩
end Go.Proofs.YtfnlponoakhegaaDoor
namespace Go.Proofs.YtfnlponoakhegaaDoor
open Go.RowKit
set_option linter.unusedVariables false
set_option linter.unusedSimpArgs false
set_option maxRecDepth 100000 in
set_option maxHeartbeats 1000000 in
theorem Same_refl (A A' : Option Addr) (l : List Ent) (cap cap' : Nat) (w : World) (hr : Reads w w.heap.size 4 A l.length (entsC l)) (hr' : Reads w w.heap.size 4 A' l.length (entsC l)) (hl : l.length ≤ 9223372036854775807) :
    Calls Tryd.prog 24 #[.slice A l.length cap, .slice A' l.length cap'] w fun e w' => e = .returned (.bool true) ∧ Below w.heap.size w w' := by
  go_enter Tryd.func24, Tryd.ntmps24
  go_wp2_with fail
  go_loopw [5] (fun iv wr => ∃ i, i ≤ l.length ∧ iv = .int .i64 (i : Nat) ∧ Below w.heap.size w wr) (fun iv _ => l.length - (intOf iv).toNat)
  case atStart => exact ⟨0, Nat.zero_le _, rfl, Below.refl _ _⟩
  case round =>
    obtain ⟨i, hi, rfl, hbr⟩ := hrel
    have hzr := hbr.size
    by_cases hil : i < l.length
    · have hil' : ((i : Nat) : Int) < (l.length : Nat) := by omega
      have hx := List.getElem?_eq_getElem hil
      obtain ⟨ad, rfl, hab, acell⟩ := (hr.below hbr).2 (by omega)
      obtain ⟨ad2, rfl, hab2, bcell⟩ := (hr'.below hbr).2 (by omega)
      obtain ⟨abb, aoo, rfl⟩ := plain_cell (acell 0 _ (entsC_at l 0 l[0] (List.getElem?_eq_getElem (by omega))).1)
      obtain ⟨aq0, aq1, aq2, aq3⟩ := entsC_at l i _ hx
      replace aq0 := acell _ _ aq0
      replace aq1 := acell _ _ aq1
      replace aq2 := acell _ _ aq2
      replace aq3 := acell _ _ aq3
      rw [add_off] at aq0 aq1 aq2 aq3
      rw [← Nat.add_assoc] at aq1 aq2 aq3
      clear acell
      obtain ⟨bbb, boo, rfl⟩ := plain_cell (bcell 0 _ (entsC_at l 0 l[0] (List.getElem?_eq_getElem (by omega))).1)
      obtain ⟨bq0, bq1, bq2, bq3⟩ := entsC_at l i _ hx
      replace bq0 := bcell _ _ bq0
      replace bq1 := bcell _ _ bq1
      replace bq2 := bcell _ _ bq2
      replace bq3 := bcell _ _ bq3
      rw [add_off] at bq0 bq1 bq2 bq3
      rw [← Nat.add_assoc] at bq1 bq2 bq3
      clear bcell
      have ha' : abb < wr.heap.size := Nat.lt_of_lt_of_le hab hzr
      have hb' : bbb < wr.heap.size := Nat.lt_of_lt_of_le hab2 hzr
      replace hx := Lib.hid hx
      generalize l[i] = eo at *
      go_wp2_with fail
      have hxc := @Ext.cell
      refine wp_region_ext (by kernel_rfl) (by kernel_rfl) ?_
      repeat (go_big_quiet_step ((first | fail)))
      refine wpQuiet_nil ?_
      clear hxc
      intro wx hwx
      obtain ⟨x, hx⟩ := hwx
      have hb := x.below
      rw [← hx] at hb
      clear hx x
      go_wp2_with fail
      exact ⟨⟨i + 1, by omega, by go_num, hbr.trans (hb.mono hzr)⟩, by first | omega | (simp only [intOf]; omega)⟩
    · obtain rfl : i = l.length := by omega
      have hil' : ¬ ((l.length : Nat) : Int) < (l.length : Nat) := by omega
      go_wp2_with fail
      go_ret
      exact ⟨rfl, hbr⟩
theorem results_ttct {fn : Func} {a b p u : Tmp} {ty : TypeId} (h : fn.results = #[.tmp a, .tmp b, .cell p ty, .tmp u]) (tmps : Array Value) (w : World) (g : Nat) (v x y z : Value)
    (hx : tmps.getD a undef = x) (hz : tmps.getD b undef = z) (hp : tmps.getD p undef = .pointer (some ⟨g, 0, none⟩)) (hy : tmps.getD u undef = y) (hl : (loadVar ty ⟨g, 0, none⟩).run Tryd.prog w = .ok v w) :
    (results fn tmps).run Tryd.prog w = .ok (.tuple #[x, z, v, y]) w := by
  have hx' : tmps[a]?.getD undef = x := by simpa using hx
  have hz' : tmps[b]?.getD undef = z := by simpa using hz
  have hp' : tmps[p]?.getD undef = .pointer (some ⟨g, 0, none⟩) := by simpa using hp
  have hy' : tmps[u]?.getD undef = y := by simpa using hy
  simp only [results, h]
  simp [Sem.run_bind, Result.andThen, hx', hz', hp', hy', asAddr, hl]
theorem own_more {w : World} {B B' e m n : Nat} {v : Value} {xs : List Value} (h : w.ownsRow B e m v n xs) (hB : B' ≤ B) : w.ownsRow B' e m v n xs := by
  refine ⟨h.1, h.2.imp id ?_⟩
  rintro ⟨g, cap, cur, e1, h1, rest⟩
  exact ⟨g, cap, cur, e1, Nat.le_trans hB h1, rest⟩
theorem add_piece {s : TB} {e : Ent} (h : s.err e ≠ 0) : (s.add e).2 = [] := by rw [add_err h]
set_option maxRecDepth 100000 in
set_option maxHeartbeats 4000000 in
theorem taken_any (A : Option Addr) (l : List Ent) (cap : Nat) (w : World) (hG : Gl w) (hr : Reads w w.heap.size 4 A l.length (entsC l)) (hl : l.length ≤ 1048576) (hsq : ∀ e ∈ l, e.seq < 18446744073709551616) :
    Calls Tryd.prog 23 #[.slice A l.length cap] w fun e w' => ∃ v, e = .returned (.tuple #[v, .string (bs ((runX 3 1 l).2.1 ++ (runX 3 1 l).1.outL)), .agg (tiC (finT (runX 3 1 l))), .int .i64 (finE (runX 3 1 l) : Nat)]) ∧ OwnE w' w.heap.size v (runX 3 1 l).2.2 ∧ Below w.heap.size w w' := by
  obtain ⟨i0, hi0, hz0, hz1, hz2⟩ := info_parts entry_info
  obtain ⟨w0, hw0⟩ : ∃ w0, w.alloc (.cells #[.int .u64 0, .int .i64 0, .int .i64 0, .int .i64 0, .string ⟨#[]⟩, .string ⟨#[]⟩, .int .u64 0, .int .u64 0] 26) = w0 := ⟨_, rfl⟩
  have hA : Below w.heap.size w w0 := by rw [← hw0]; exact (Below.refl _ _).alloc (Nat.le_refl _) _
  have hR0 : Blk w0 w.heap.size 26 #[.int .u64 0, .int .i64 0, .int .i64 0, .int .i64 0, .string ⟨#[]⟩, .string ⟨#[]⟩, .int .u64 0, .int .u64 0] := by rw [← hw0]; exact Blk.new _ _ _
  have hnew := Lib.hid (New_any 3 1 w0)
  have hGl := hG.lt
  have hG0 := hG.below hA hGl
  have hrl := hR0.lt
  have hz0' : w0.heap.size = w.heap.size + 1 := by rw [← hw0, World.size_alloc]
  have hrd0 := (hr.below hA).more hA.size
  replace hz0' := Lib.hid hz0'
  go_enter Tryd.func23, Tryd.ntmps23
  go_wp2_with fail
  replace hw0 := Lib.hid hw0
  refine hnew.out.mono ?_
  rintro e w1 ⟨⟨gb, rfl, hB1⟩, hb1⟩
  have hS1 := TSt.new hB1 hb1
  clear hnew hB1 hb1
  go_wp2_with fail
  go_loopw [7, 8, 9] (fun ov sv iv wr => ∃ i, i ≤ l.length ∧ iv = .int .i64 (i : Nat) ∧ sv = .string (bs (runX 3 1 (l.take i)).2.1) ∧ TSt w0 wr 3 1 gb (l.take i) ov (runX 3 1 (l.take i)).2.2) (fun _ _ iv _ => l.length - (intOf iv).toNat)
  case atStart => exact ⟨0, Nat.zero_le _, rfl, rfl, hS1⟩
  case round =>
    obtain ⟨i, hi, rfl, rfl, hSt⟩ := hrel
    have hbr := hSt.bel
    obtain ⟨Ao, co, rfl⟩ := hSt.row.form
    by_cases hil : i < l.length
    · have hil' : ((i : Nat) : Int) < (l.length : Nat) := by omega
      have hx := List.getElem?_eq_getElem hil
      have hsn : l.take (i + 1) = l.take i ++ [l[i]] := by rw [List.take_succ_eq_append_getElem hil]
      have hsq1 := hsq _ (List.getElem_mem hil)
      obtain ⟨ad, rfl, hab, acell⟩ := (hrd0.below hbr).2 (by omega)
      obtain ⟨abb, aoo, rfl⟩ := plain_cell (acell 0 _ (entsC_at l 0 l[0] (List.getElem?_eq_getElem (by omega))).1)
      obtain ⟨aq0, aq1, aq2, aq3⟩ := entsC_at l i _ hx
      replace aq0 := acell _ _ aq0
      replace aq1 := acell _ _ aq1
      replace aq2 := acell _ _ aq2
      replace aq3 := acell _ _ aq3
      rw [add_off] at aq0 aq1 aq2 aq3
      rw [← Nat.add_assoc] at aq1 aq2 aq3
      clear acell
      have hab' : abb < w0.heap.size := hab
      replace hx := Lib.hid hx
      have htl : (l.take i).length ≤ i := by rw [List.length_take]; omega
      generalize l[i] = eo at *
      generalize l.take i = es at *
      have hadd := Lib.hid (hSt.add hG0 (by omega) eo hsq1)
      have hpl := piece_len 3 1 es eo (by omega)
      have hrs := runX_snoc 3 1 es eo
      have hown := (runX_I 3 1 es).len
      have hpc := @add_piece (runX 3 1 es).1 eo
      replace hsn := Lib.hid hsn
      unfold entC at hadd
      unfold stepX at hrs
      obtain ⟨r, hrr⟩ : ∃ r, r = runX 3 1 es := ⟨_, rfl⟩
      rw [← hrr] at hrs hpl hadd hown hpc ⊢
      by_cases he : r.1.err eo = 0
      · have he' : ((r.1.err eo : Nat) : Int) = 0 := by omega
        rw [if_pos he] at hrs
        replace hrr := Lib.hid hrr
        replace hrs := Lib.hid hrs
        replace he := Lib.hid he
        clear hpc
        go_wp2_with fail
        refine hadd.out.mono ?_
        rintro e w2 ⟨rfl, hSt2⟩
        have hbr2 := hSt2.bel
        have hO2 := hSt2.row
        have hz2' := hbr2.size
        have hszz : ¬ 9223372036854775807 < (bs r.2.1).size + (bs (r.1.add eo).2).size := by rw [bs_size, bs_size]; omega
        have q0 := ((hrd0.below hbr2)).2 (by omega)
        obtain ⟨ad', hq, hab2, ccell⟩ := q0
        injection hq with hq
        subst hq
        obtain ⟨cq0, cq1, cq2, cq3⟩ := entsC_at l i _ hx.out
        replace cq0 := ccell _ _ cq0
        replace cq1 := ccell _ _ cq1
        replace cq2 := ccell _ _ cq2
        replace cq3 := ccell _ _ cq3
        rw [add_off] at cq0 cq1 cq2 cq3
        rw [← Nat.add_assoc] at cq1 cq2 cq3
        clear ccell aq0 aq1 aq2 aq3
        have ho1 := World.ownsRow.alloc (show w2.ownsRow w0.heap.size 33 4 (.slice Ao r.2.2.length co) r.2.2.length (entsC r.2.2) from hO2) (.cells #[.string (bs eo.key), .string (bs eo.value), .int .u64 (eo.seq : Nat), .bool eo.gone] 33)
        have hrd := reads4 w2 33 (.string (bs eo.key)) (.string (bs eo.value)) (.int .u64 (eo.seq : Nat)) (.bool eo.gone)
        have hbase : w0.heap.size ≤ (w2.alloc (.cells #[.string (bs eo.key), .string (bs eo.value), .int .u64 (eo.seq : Nat), .bool eo.gone] 33)).heap.size := by rw [World.size_alloc]; omega
        replace ho1 := Lib.hid ho1
        replace hrd := Lib.hid hrd
        go_wp2_with (at_builtin; refine wpList_append_any _ rfl (.tmp 36) (.tmp 41) _ rfl w0.heap.size 33 i0 _ 4 48 Tryd.underlying41 hi0 hz0 hz1 hz2 rfl (by omega) _ r.2.2.length (entsC r.2.2) rfl ho1.out (w2.heap.size + 1) (some ⟨w2.heap.size, 0, none⟩) 1 1 _ rfl hrd.out (fun u hu => by simp at hu; rcases hu with rfl | rfl | rfl | rfl <;> rfl) (by unfold maxLen; omega) (by omega) hbase ?_)
        intro v' w7 ho7 hg7 hat7
        have hSt7 := hSt2.grow hg7 (OwnE.snoc eo ho7) (by rw [World.size_alloc]; exact hat7)
        replace hSt7 := Lib.hid hSt7
        go_wp2_with fail
        refine ⟨⟨i + 1, by omega, by go_num, ?_, ?_⟩, by first | omega | (simp only [intOf]; omega)⟩
        · rw [hsn.out, hrs.out, bs_append]
        · rw [hsn.out, hrs.out]
          exact hSt7.out
      · have he' : ¬ ((r.1.err eo : Nat) : Int) = 0 := by omega
        have hpe := hpc he
        rw [if_neg he, hpe, List.append_nil] at hrs
        rw [hpe] at hadd
        clear hpc
        replace hrr := Lib.hid hrr
        replace hrs := Lib.hid hrs
        replace he := Lib.hid he
        replace hpe := Lib.hid hpe
        go_wp2_with fail
        refine hadd.out.mono ?_
        rintro e w2 ⟨rfl, hSt2⟩
        have hszz : ¬ 9223372036854775807 < (bs r.2.1).size + (bs []).size := by rw [bs_size, bs_size]; simp only [List.length_nil]; omega
        have hbe : (bs []).toList = [] := bs_toList _
        have hbe2 : bs r.2.1 ++ bs [] = bs r.2.1 := by rw [bs_append, List.append_nil]
        go_wp2_with fail
        refine ⟨⟨i + 1, by omega, by go_num, ?_, ?_⟩, by first | omega | (simp only [intOf]; omega)⟩
        · rw [hsn.out, hrs.out]
        · rw [hsn.out, hrs.out]
          exact hSt2
    · obtain rfl : i = l.length := by omega
      have hil' : ¬ ((l.length : Nat) : Int) < (l.length : Nat) := by omega
      rw [List.take_length] at hSt ⊢
      have hfin := Lib.hid (hSt.fin hG0 (by omega))
      have hln := runX_len 3 1 l (by omega)
      obtain ⟨r, hrr⟩ : ∃ r, r = runX 3 1 l := ⟨_, rfl⟩
      obtain ⟨x, hxx⟩ : ∃ x, x = finT (runX 3 1 l) := ⟨_, rfl⟩
      rw [← hxx] at hfin
      rw [← hrr] at hfin hln ⊢
      replace hrr := Lib.hid hrr
      replace hxx := Lib.hid hxx
      go_wp2_with fail
      refine hfin.out.mono ?_
      rintro e w2 ⟨rfl, hO2, hb2⟩
      have hR2 := hR0.below hb2 hrl
      have hb02 := hA.trans (hb2.mono hA.size)
      have hO3 : OwnE (w2.alloc (.cells (tiC x) 26)) w0.heap.size (.slice Ao r.2.2.length co) r.2.2 := hO2.below ((Below.refl _ _).alloc (Nat.le_refl _) _)
      have hT3 := Blk.new w2 26 (tiC x)
      have hR3 := hR2.below ((Below.refl w2.heap.size w2).alloc (Nat.le_refl _) (.cells (tiC x) 26)) hR2.lt
      have hb03 := hb02.alloc hb02.size (.cells (tiC x) 26)
      have hl3 : w2.heap.size < (w2.alloc (.cells (tiC x) 26)).heap.size := by rw [World.size_alloc]; omega
      have hszz : ¬ 9223372036854775807 < (bs r.2.1).size + (bs r.1.outL).size := by rw [bs_size, bs_size]; omega
      unfold tiC strV at hT3 hR3 hb03 hl3 hO3 ⊢
      go_wp2_with fail
      generalize hw3 : w2.alloc (.cells #[.int .u64 (x.n : Nat), .int .i64 x.level, .int .i64 (x.count : Nat), .int .i64 (x.size : Nat), .string (bs x.first), .string (bs x.last), .int .u64 (x.least : Nat), .int .u64 (x.most : Nat)] 26) = w3 at *
      have z0 := hT3.cell 0
      have z1 := hT3.cell 1
      have z2 := hT3.cell 2
      have z3 := hT3.cell 3
      have z4 := hT3.cell 4
      have z5 := hT3.cell 5
      have z6 := hT3.cell 6
      have z7 := hT3.cell 7
      simp only [List.getElem?_toArray, List.getElem?_cons_zero, List.getElem?_cons_succ] at z0 z1 z2 z3 z4 z5 z6 z7
      replace hw3 := Lib.hid hw3
      have hxc := @Ext.cell
      have hxf := @Ext.frozen
      refine wp_hide (fun Q0 hQ0 => ?_)
      refine wp_region_line (fun w' => ∃ x : Ext _, w' = x.w) [some false, some false, some false, some false, some false, some true, some false, some false, none, none] 0 (by kernel_rfl) (by kernel_rfl) ⟨⟨_, (Below.refl _ _).drew⟩, rfl⟩ ?_
      simp only [earlyL, tailL]
      repeat (first | ((with_reducible refine wpMix_p ?_); go_big_quiet_step (fail); refine wpQuiet_nil ?_) | ((with_reducible refine wpMix_e ?_); go_big_quiet_step ((first | fail)); refine wpQuiet_nil ?_))
      refine wpMix_nil ?_
      clear hxc hxf
      intro wx hwx
      obtain ⟨x, hx⟩ := hwx
      have hb := x.below
      rw [← hx] at hb
      clear hx x
      have hRx := hR3.below hb hR3.lt
      have hbx := hb03.trans (hb.mono hb03.size)
      have hOx := hO3.below hb
      have x0 := hRx.cell 0
      have x1 := hRx.cell 1
      have x2 := hRx.cell 2
      have x3 := hRx.cell 3
      have x4 := hRx.cell 4
      have x5 := hRx.cell 5
      have x6 := hRx.cell 6
      have x7 := hRx.cell 7
      have u0 := hRx.frozen 0
      have u1 := hRx.frozen 1
      have u2 := hRx.frozen 2
      have u3 := hRx.frozen 3
      have u4 := hRx.frozen 4
      have u5 := hRx.frozen 5
      have u6 := hRx.frozen 6
      have u7 := hRx.frozen 7
      have ul := hRx.lt
      simp only [List.getElem?_toArray, List.getElem?_cons_zero, List.getElem?_cons_succ] at x0 x1 x2 x3 x4 x5 x6 x7
      clear z0 z1 z2 z3 z4 z5 z6 z7
      have hfinR := ti_set hRx x
      replace hfinR := Lib.hid hfinR
      have hbf := (((((((hbx.setCell (p := ⟨w.heap.size, 0, none⟩) (Nat.le_refl _) (.int .u64 (x.n : Nat))).setCell (p := ⟨w.heap.size, 1, none⟩) (Nat.le_refl _) (.int .i64 x.level)).setCell (p := ⟨w.heap.size, 2, none⟩) (Nat.le_refl _) (.int .i64 (x.count : Nat))).setCell (p := ⟨w.heap.size, 3, none⟩) (Nat.le_refl _) (.int .i64 (x.size : Nat))).setCell (p := ⟨w.heap.size, 4, none⟩) (Nat.le_refl _) (.string (bs x.first))).setCell (p := ⟨w.heap.size, 5, none⟩) (Nat.le_refl _) (.string (bs x.last))).setCell (p := ⟨w.heap.size, 6, none⟩) (Nat.le_refl _) (.int .u64 (x.least : Nat))).setCell (p := ⟨w.heap.size, 7, none⟩) (Nat.le_refl _) (.int .u64 (x.most : Nat))
      replace hbf := Lib.hid hbf
      have hkf := ((((((((KeptBut.refl wx (fun k => k = w.heap.size)).then_set (o := 0) (v := .int .u64 (x.n : Nat)) rfl).then_set (o := 1) (v := .int .i64 x.level) rfl).then_set (o := 2) (v := .int .i64 (x.count : Nat)) rfl).then_set (o := 3) (v := .int .i64 (x.size : Nat)) rfl).then_set (o := 4) (v := .string (bs x.first)) rfl).then_set (o := 5) (v := .string (bs x.last)) rfl).then_set (o := 6) (v := .int .u64 (x.least : Nat)) rfl).then_set (o := 7) (v := .int .u64 (x.most : Nat)) rfl
      have hOf : OwnE _ w0.heap.size (.slice Ao r.2.2.length co) r.2.2 := own_kept hOx hkf (fun k e1 e2 => by have := (own_lt hOx k e1).1; have := hz0'.out; omega)
      replace hOf := Lib.hid hOf
      clear hkf
      refine wpTail_step ?_
      intro Q1 hQ1
      go_wp2_with (fail)
      refine hQ1 _ _ rfl (fun h => absurd h (by decide)) ?_
      clear hQ1 Q1
      refine wpTail_step ?_
      intro Q1 hQ1
      go_wp2_with (fail)
      refine hQ1 _ _ rfl (fun h => absurd h (by decide)) ?_
      clear hQ1 Q1
      refine wpTail_nil ?_
      refine hQ0 _ _ ?_
      clear hQ0 Q0
      go_wp2_with fail
      refine bodyPost_ret (v := .tuple #[.slice Ao r.2.2.length co, .string (bs (r.2.1 ++ r.1.outL)), .agg (tiC x), .int .i64 (finE r : Nat)]) (results_ttct rfl _ _ w.heap.size _ _ _ _ rfl (by rw [← bs_append]; rfl) rfl rfl (load_ti hfinR.out rfl)) rfl ⟨.slice Ao r.2.2.length co, by rw [← hrr.out, hxx.out, ← hrr.out], ?_, hbf.out⟩
      rw [← hrr.out]
      exact own_more hOf.out (by have := hz0'.out; omega)
end Go.Proofs.YtfnlponoakhegaaDoor
namespace Go.Proofs.YtfnlponoakhegaaDoor
set_option linter.unusedVariables false
set_option linter.unusedSimpArgs false
theorem crcT_high : ∀ i j : Fin 16, crcT i.val >>> 28 = crcT j.val >>> 28 → i = j := by decide
theorem nib_high {s : Nat} (h : s < 4294967296) : crcNib s >>> 28 = crcT (s % 16) >>> 28 := by
  unfold crcNib
  rw [Nat.shiftRight_xor_distrib]
  have : (s / 16) >>> 28 = 0 := by rw [Nat.shiftRight_eq_div_pow]; omega
  rw [this, Nat.zero_xor]
theorem xor_cancel {a b c : Nat} (h : a ^^^ c = b ^^^ c) : a = b := by
  have := congrArg (· ^^^ c) h
  simpa [Nat.xor_assoc] using this
theorem nib_inj {s s' : Nat} (h : s < 4294967296) (h' : s' < 4294967296) (e : crcNib s = crcNib s') : s = s' := by
  have e1 : crcT (s % 16) >>> 28 = crcT (s' % 16) >>> 28 := by rw [← nib_high h, ← nib_high h', e]
  have e2 := crcT_high ⟨s % 16, Nat.mod_lt _ (by decide)⟩ ⟨s' % 16, Nat.mod_lt _ (by decide)⟩ e1
  have e3 : s % 16 = s' % 16 := congrArg Fin.val e2
  unfold crcNib at e
  rw [e3] at e
  have := xor_cancel e
  omega
theorem byte_xlt {s : Nat} (h : s < 4294967296) (c : UInt8) : s ^^^ c.toNat < 4294967296 := xor_lt h (by have := c.toNat_lt; omega)
theorem byte_inj {s s' : Nat} (h : s < 4294967296) (h' : s' < 4294967296) (c : UInt8) (e : crcByte s c = crcByte s' c) : s = s' := by
  unfold crcByte at e
  have e1 := nib_inj (crcNib_lt (byte_xlt h c)) (crcNib_lt (byte_xlt h' c)) e
  exact xor_cancel (nib_inj (byte_xlt h c) (byte_xlt h' c) e1)
theorem byte_inj2 {s : Nat} (h : s < 4294967296) {c c' : UInt8} (e : crcByte s c = crcByte s c') : c = c' := by
  unfold crcByte at e
  have e1 := nib_inj (crcNib_lt (byte_xlt h c)) (crcNib_lt (byte_xlt h c')) e
  have e2 := nib_inj (byte_xlt h c) (byte_xlt h c') e1
  rw [Nat.xor_comm s, Nat.xor_comm s] at e2
  exact UInt8.toNat_inj.1 (xor_cancel e2)
theorem fold_inj : ∀ (l : List UInt8) {s s' : Nat}, s < 4294967296 → s' < 4294967296 → l.foldl crcByte s = l.foldl crcByte s' → s = s'
  | [], _, _, _, _, e => e
  | c :: l, s, s', h, h', e => byte_inj h h' c (fold_inj l (crcByte_lt h c) (crcByte_lt h' c) e)
/-- One byte is another one: the sum is another one. -/
theorem crc_turn (a b : List UInt8) {c c' : UInt8} (h : c ≠ c') : crcL (a ++ c :: b) ≠ crcL (a ++ c' :: b) := by
  intro e
  unfold crcL at e
  rw [Nat.xor_comm, Nat.xor_comm 4294967295] at e
  have e1 := xor_cancel e
  unfold crcSum at e1
  rw [List.foldl_append, List.foldl_append, List.foldl_cons, List.foldl_cons] at e1
  have ha := crcFold_lt a (s := 4294967295) (by decide)
  exact h (byte_inj2 ha (fold_inj b (crcByte_lt ha c) (crcByte_lt ha c') e1))
end Go.Proofs.YtfnlponoakhegaaDoor
namespace Go.Proofs.YtfnlponoakhegaaDoor
set_option linter.unusedVariables false
set_option linter.unusedSimpArgs false
def fileX (r : TB × L × List Ent) : L := r.2.1 ++ r.1.outL
theorem crc_form {n : Nat} {lv : Int} {es : List Ent} (hne : (runX n lv es).2.2 ≠ []) : ∃ d, fileX (runX n lv es) = d ++ bigL (crcL d) 4 := by
  obtain ⟨⟨bl, cu, h6, h7⟩, hrun, hlen, hsub⟩ := runX_I n lv es
  generalize runX n lv es = r at *
  obtain ⟨bls, h2⟩ := h6.fin_
  refine ⟨r.2.1 ++ r.1.rest ++ r.1.fin.tail0, ?_⟩
  have e1 : (r.1.fin.parts ++ [r.1.fin.tail0]).flatten = r.2.1 ++ r.1.rest ++ r.1.fin.tail0 := by
    rw [List.flatten_append, h2.parts, h2.out_]
    simp [outs]
  unfold fileX
  rw [h6.outL_eq hne]
  unfold TB.tail
  rw [e1]
  simp only [List.append_assoc]
theorem file_ne {n : Nat} {lv : Int} {es : List Ent} (hne : (runX n lv es).2.2 ≠ []) : fileX (runX n lv es) ≠ [] := by
  obtain ⟨d, e⟩ := crc_form hne
  rw [e]
  intro h
  have := congrArg List.length h
  rw [List.length_append, bigL_len] at this
  simp at this
theorem file_nil {n : Nat} {lv : Int} {es : List Ent} (hne : (runX n lv es).2.2 = []) : fileX (runX n lv es) = [] := by
  obtain ⟨⟨bl, cu, h6, h7⟩, hrun, hlen, hsub⟩ := runX_I n lv es
  generalize runX n lv es = r at *
  unfold fileX
  rw [h6.outL_nil hne, h6.out_]
  have h1 := h6.blen
  rw [hne] at h1
  have h2 : bl = [] := List.eq_nil_of_length_eq_zero (by simp at h1; simp [h1])
  rw [h2]
  rfl
theorem runT_X (es : List Ent) : runT es = ((runX 0 0 es).1, (runX 0 0 es).2.1) := by
  induction es using snocRec with
  | nil => rfl
  | snoc es e ih =>
    rw [runX_snoc]
    unfold runT at ih ⊢
    rw [List.foldl_append, ih]
    rfl
theorem crc_eq {a b : Nat} (ha : a < 4294967296) (hb : b < 4294967296) (h : bigL a 4 = bigL b 4) : a = b := by
  have := congrArg beV h
  rw [beV_big, beV_big] at this
  omega
/-- Bytes of which one is another one are no table's. -/
theorem turned_none {n : Nat} {lv : Int} {es : List Ent} (hne : (runX n lv es).2.2 ≠ []) {k : Nat} {c : UInt8} (hk : k < (fileX (runX n lv es)).length) (hc : (fileX (runX n lv es))[k] ≠ c) : openT ((fileX (runX n lv es)).set k c) = none := by
  obtain ⟨d, e⟩ := crc_form hne
  generalize fileX (runX n lv es) = S at *
  subst e
  cases ho : openT ((d ++ bigL (crcL d) 4).set k c) with
  | none => rfl
  | some t =>
    exfalso
    obtain ⟨es', h1, _, _⟩ := openT_some ho
    rw [runT_X] at h1
    have hne' : (runX 0 0 es').2.2 ≠ [] := by
      intro h
      have := file_nil h
      unfold fileX at this
      simp only at h1
      rw [this] at h1
      have := congrArg List.length h1
      simp [bigL_len] at this
    obtain ⟨d', e'⟩ := crc_form hne'
    have h2 : (d ++ bigL (crcL d) 4).set k c = d' ++ bigL (crcL d') 4 := h1.trans e'
    have hl := congrArg List.length h2
    rw [List.length_set, List.length_append, List.length_append, bigL_len, bigL_len] at hl
    by_cases hkd : k < d.length
    · rw [List.set_append_left _ _ hkd] at h2
      obtain ⟨h3, h4⟩ := List.append_inj h2 (by rw [List.length_set]; omega)
      have h5 := crc_eq (crcL_lt _) (crcL_lt _) h4
      rw [← h3] at h5
      have e1 : d = d.take k ++ d[k] :: d.drop (k + 1) := by rw [← List.drop_eq_getElem_cons hkd, List.take_append_drop]
      have e2 : d.set k c = d.take k ++ c :: d.drop (k + 1) := by rw [List.set_eq_take_append_cons_drop, if_pos hkd]
      rw [e2] at h5
      have hck : d[k] ≠ c := by
        rw [List.getElem_append_left hkd] at hc
        exact hc
      have h6 := crc_turn (d.take k) (d.drop (k + 1)) hck
      rw [← e1] at h6
      exact h6 h5
    · rw [List.set_append_right _ _ (by omega)] at h2
      obtain ⟨h3, h4⟩ := List.append_inj h2 (by omega)
      rw [← h3] at h4
      rw [List.length_append, bigL_len] at hk
      have h5 := congrArg (fun l => l[k - d.length]?) h4
      rw [List.getElem?_set_self (by rw [bigL_len]; omega), List.getElem?_eq_getElem (by rw [bigL_len]; omega)] at h5
      injection h5 with h5
      rw [List.getElem_append_right (by omega)] at hc
      exact hc h5.symm
theorem turned_same {n : Nat} {lv : Int} {es : List Ent} {k : Nat} {c : UInt8} (hk : k < (fileX (runX n lv es)).length) (hc : (fileX (runX n lv es))[k] = c) : (fileX (runX n lv es)).set k c = fileX (runX n lv es) := by
  rw [← hc]
  exact List.set_getElem_self hk
end Go.Proofs.YtfnlponoakhegaaDoor
namespace Go.Proofs.YtfnlponoakhegaaDoor
open Go.RowKit
set_option linter.unusedVariables false
set_option linter.unusedSimpArgs false
theorem conv_own (w : World) (s : ByteArray) : ∃ cap W2, (convert 9 34 (.string s)).run Tryd.prog w = .ok (.slice (some ⟨w.heap.size, 0, none⟩) s.size cap) W2 ∧ Below w.heap.size w W2 ∧ W2.heap.size = w.heap.size + 1 ∧ (∀ j, j < s.size → W2.cell? ⟨w.heap.size, j, none⟩ = some (B8 (s.data.toList.getD j 0))) ∧ ∀ j, j < s.size → W2.frozen? ⟨w.heap.size, j, none⟩ = false :=
  ⟨_, _, Lib.run_convert_string_bytes w 9 34 5 s Tryd.underlying9 Tryd.underlying34 Tryd.underlying5,
    ⟨rfl, rfl, rfl, by rw [Lib.bytesWorld_size]; omega, fun k hk => Lib.bytesWorld_at_old w _ s k hk⟩, Lib.bytesWorld_size w _ s, fun j hj => Lib.bytesWorld_cell w _ s j hj, fun j hj => by
      have hsz : s.size ≤ (Lib.bytesCells w 5 s).size := by
        unfold Lib.bytesCells
        rw [Array.size_append, Array.size_map]
        exact Nat.le_add_right _ _
      simp only [World.frozen?, Lib.bytesWorld_at_new]
      have : ¬ (Lib.bytesCells w 5 s).size ≤ j := by omega
      simp [this]⟩
set_option maxRecDepth 100000 in
theorem conv_back {w : World} {g cap : Nat} {l : L} (h : ∀ j, j < l.length → w.cell? ⟨g, j, none⟩ = some (B8 (l.getD j 0))) : (convert 34 9 (.slice (some ⟨g, 0, none⟩) l.length cap)).run Tryd.prog w = .ok (.string (bs l)) w := by
  have := run_convert_bytes_arg (P := Tryd.prog) w 34 5 Tryd.underlying34 Tryd.underlying5 g 0 l.length cap (l.map fun c => (c.toNat : Int)) (by simp) (fun i hi => by
      rw [Nat.zero_add, h i hi]
      simp [B8, List.getD, hi]) 9 Tryd.underlying9
  rw [this]
  congr 2
  unfold strOfNums bs
  congr 1
  simp [List.map_map, Function.comp_def]
theorem entSz_sub {a b : List Ent} (h : a.Sublist b) : entSz a ≤ entSz b := by
  induction h with
  | slnil => exact Nat.le_refl _
  | cons x _ ih => unfold entSz at *; simp only [List.map_cons, List.sum_cons]; omega
  | cons_cons x _ ih => unfold entSz at *; simp only [List.map_cons, List.sum_cons]; omega
theorem xor_zero_iff (x c : Nat) (h : x ^^^ c = x) : c = 0 := by
  have := congrArg (x ^^^ ·) h
  simpa [← Nat.xor_assoc] using this
set_option maxRecDepth 100000 in
set_option maxHeartbeats 1000000 in
theorem Turned_any (A : Option Addr) (l : List Ent) (cap : Nat) (at_ : Nat) (c : Nat) (w : World) (hG : Gl w) (hr : Reads w w.heap.size 4 A l.length (entsC l)) (hl : l.length ≤ 9223372036854775807) (hs : ∀ e ∈ l, e.key.length ≤ 9223372036854775807 ∧ e.value.length ≤ 9223372036854775807 ∧ e.seq < 18446744073709551616) (ha : at_ < 65536) (hc : c < 256) :
    Calls Tryd.prog 7 #[.slice A l.length cap, .int .u16 (at_ : Nat), .int .u8 (c : Nat)] w fun e w' => e = .returned (.bool true) ∧ Below w.heap.size w w' := by
  have hgr := GreatE_any A l cap w hr hl (fun e he => ⟨(hs e he).1, (hs e he).2.1⟩)
  have hawk := Lib.hid awake_any
  have hGl := hG.lt
  cases hgp : greatP l
  · rw [hgp] at hgr
    obtain ⟨hl100, hsz⟩ := greatP_not hgp
    replace hgr := Lib.hid hgr
    replace hgp := Lib.hid hgp
    go_enter Tryd.func7, Tryd.ntmps7
    go_wp2_with fail
    refine hgr.out.mono ?_
    rintro e w1 ⟨rfl, hb1⟩
    have hz1 := hb1.size
    have htk := taken_any A l cap w1 (hG.below hb1 hGl) ((hr.below hb1).more hz1) (by omega) (fun e he => (hs e he).2.2)
    have hfe := @file_ne 3 1 l
    have hfn := @file_nil 3 1 l
    have htn := @turned_none 3 1 l
    have hts := @turned_same 3 1 l
    have hop := @opened 3 1 l (by omega)
    have hX := runX_I 3 1 l
    have hE : finE (runX 3 1 l) = if (runX 3 1 l).2.2 = [] then 9 else 0 := rfl
    unfold fileX at hfe hfn htn hts
    obtain ⟨r, hrr⟩ : ∃ r, r = runX 3 1 l := ⟨_, rfl⟩
    rw [← hrr] at htk hfe hfn htn hts hop hX hE
    obtain ⟨⟨bl, cu, h6, h7⟩, hrun, hlen, hsub⟩ := hX
    have hent : entSz r.2.2 ≤ 8000 := Nat.le_trans (entSz_sub hsub) hsz
    have hfl := h6.file_len (by omega) hent
    obtain ⟨S, hS⟩ : ∃ S, S = r.2.1 ++ r.1.outL := ⟨_, rfl⟩
    rw [← hS] at htk hfe hfn htn hts hop hfl
    replace hS := Lib.hid hS
    obtain ⟨x, hxx⟩ : ∃ x, x = finT r := ⟨_, rfl⟩
    rw [← hxx] at htk
    replace hxx := Lib.hid hxx
    replace hrr := Lib.hid hrr
    clear h6 h7 hrun
    by_cases hne : r.2.2 = []
    · rw [hE, if_pos hne, hfn hne] at htk
      clear hfe hfn htn hts hop
      replace htk := Lib.hid htk
      replace hE := Lib.hid hE
      go_wp2_with fail
      refine htk.out.mono ?_
      rintro e w2 ⟨v, rfl, hO2, hb2⟩
      have hb02 := hb1.trans (hb2.mono hz1)
      have hbe : (bs []).toList = [] := bs_toList _
      have hal : Below w.heap.size w (w2.alloc (.cells (tiC x) 26)) := hb02.alloc hb02.size _
      have haw := Lib.hid (hawk.out _ (hG.below hal hGl))
      unfold tiC strV at hal haw ⊢
      go_wp2_with fail
      refine haw.out.mono ?_
      rintro e w3 ⟨rfl, hb3⟩
      go_wp2_with fail
      go_ret
      exact ⟨rfl, hal.trans (hb3.mono hal.size)⟩
    · rw [hE, if_neg hne] at htk
      have hS0 := hfe hne
      have hop2 := hop hne
      have htn2 := @htn hne
      clear hfe hfn hop htn
      replace htk := Lib.hid htk
      replace hE := Lib.hid hE
      have hSl : 0 < S.length := List.length_pos_iff.2 hS0
      have hbs : (bs S).size = S.length := bs_size _
      go_wp2_with fail
      refine htk.out.mono ?_
      rintro e w2 ⟨v, rfl, hO2, hb2⟩
      have hb02 := hb1.trans (hb2.mono hz1)
      have hal : Below w.heap.size w (w2.alloc (.cells (tiC x) 26)) := hb02.alloc hb02.size _
      unfold tiC strV at hal ⊢
      replace hb02 := Lib.hid hb02
      obtain ⟨w3, hw3⟩ : ∃ w3, w2.alloc (.cells #[.int .u64 (x.n : Nat), .int .i64 x.level, .int .i64 (x.count : Nat), .int .i64 (x.size : Nat), .string (bs x.first), .string (bs x.last), .int .u64 (x.least : Nat), .int .u64 (x.most : Nat)] 26) = w3 := ⟨_, rfl⟩
      rw [hw3] at hal
      obtain ⟨cap3, w4, hrun, hbW, hzW, hcells, hfz⟩ := conv_own w3 (bs S)
      rw [bs_size] at hrun hcells hfz
      rw [bs_data] at hcells
      have hb04 := hal.trans (hbW.mono hal.size)
      have hmod : ((at_ : Nat) : Int) % ((S.length : Nat) : Int) = ((at_ % S.length : Nat) : Int) := by omega
      have hkl : at_ % S.length < S.length := Nat.mod_lt _ hSl
      generalize at_ % S.length = k at *
      have hck := hcells k hkl
      have hfk := hfz k hkl
      have hgd : S.getD k 0 = S[k] := by simp [hkl]
      rw [hgd] at hck
      unfold B8 at hck
      have hxl := (S[k]).toNat_lt
      have hxor := u8_xor_nat (S[k]).toNat c hxl hc
      obtain ⟨q, hq⟩ : ∃ q, q = (S[k]).toNat ^^^ c := ⟨_, rfl⟩
      have hql : q < 256 := by rw [hq]; exact Nat.xor_lt_two_pow (n := 8) hxl hc
      rw [← hq] at hxor
      have hlg : w3.heap.size < w4.heap.size := by rw [hzW]; omega
      have hqv : B8 (UInt8.ofNat q) = .int .u8 ((q : Nat) : Int) := by unfold B8; rw [UInt8.toNat_ofNat', Nat.mod_eq_of_lt hql]
      have hcv := conv_back (w := w4.setCell ⟨w3.heap.size, k, none⟩ (.int .u8 ((q : Nat) : Int))) (g := w3.heap.size) (cap := cap3) (l := S.set k (UInt8.ofNat q)) (fun j hj => by
        rw [List.length_set] at hj
        by_cases hjk : j = k
        · subst hjk
          rw [World.cell?_setCell_same' _ _ _ (by rw [hck]; rfl), ← hqv]
          simp [List.getD, hkl]
        · have hne : (⟨w3.heap.size, k, none⟩ : Addr) ≠ ⟨w3.heap.size, j, none⟩ := by
            intro e
            injection e with e1 e2
            omega
          rw [World.cell?_setCell_other (h := hne), hcells j hj]
          have : k ≠ j := fun e => hjk e.symm
          simp [List.getD, List.getElem?_set_ne this])
      rw [List.length_set] at hcv
      have hb05 := hb04.setCell (p := ⟨w3.heap.size, k, none⟩) hal.size (.int .u8 ((q : Nat) : Int))
      have hopn := TOpen_any (bs (S.set k (UInt8.ofNat q))) (w4.setCell ⟨w3.heap.size, k, none⟩ (.int .u8 ((q : Nat) : Int))) (by rw [bs_size, List.length_set]; exact hfl) (hG.below hb05 hGl)
      rw [bs_data] at hopn
      replace hcells := Lib.hid hcells
      replace hfz := Lib.hid hfz
      replace hq := Lib.hid hq
      replace hgd := Lib.hid hgd
      have hopn2 := Lib.hid hopn
      clear hopn
      replace hqv := Lib.hid hqv
      go_wp2_with fail
      refine hopn2.out.mono ?_
      rintro e w6 ⟨hOp, hb6⟩
      have hb06 := hb05.trans (hb6.mono hb05.size)
      have haw := Lib.hid (hawk.out _ (hG.below hb06 hGl))
      clear hopn2 hb6
      by_cases hc0 : c = 0
      · have hsame : S.set k (UInt8.ofNat q) = S := hts hkl (by rw [hq.out, hc0]; simp)
        obtain ⟨bls, ho, _⟩ := hop2
        rw [hsame, ho] at hOp
        obtain ⟨gt, rfl, _⟩ := hOp
        clear hts htn2 ho
        replace hsame := Lib.hid hsame
        have hc0' : ((c : Nat) : Int) = 0 := by omega
        go_wp2_with fail
        refine haw.out.mono ?_
        rintro e w7 ⟨rfl, hb7⟩
        go_wp2_with fail
        go_ret
        exact ⟨rfl, hb06.trans (hb7.mono hb06.size)⟩
      · have hnone : openT (S.set k (UInt8.ofNat q)) = none := htn2 hkl (fun e => hc0 (by
          have e1 := congrArg UInt8.toNat e
          rw [UInt8.toNat_ofNat', Nat.mod_eq_of_lt hql, hq.out] at e1
          exact xor_zero_iff _ _ e1.symm))
        rw [hnone] at hOp
        have hOp2 : e = .returned (.tuple #[.pointer none, .int .i64 8]) := hOp
        subst hOp2
        clear hts htn2 hop2 hOp
        replace hnone := Lib.hid hnone
        have hc0' : ¬ ((c : Nat) : Int) = 0 := by omega
        have hcb : (((c : Nat) : Int) == 0) = false := by simpa using hc0'
        go_wp2_with fail
        refine haw.out.mono ?_
        rintro e w7 ⟨rfl, hb7⟩
        go_wp2_with fail
        go_ret
        exact ⟨rfl, hb06.trans (hb7.mono hb06.size)⟩
  · rw [hgp] at hgr
    replace hgr := Lib.hid hgr
    go_enter Tryd.func7, Tryd.ntmps7
    go_wp2_with fail
    refine hgr.out.mono ?_
    rintro e w1 ⟨rfl, hb1⟩
    go_wp2_with fail
    refine (hawk.out w1 (hG.below hb1 hGl)).mono ?_
    rintro e w2 ⟨rfl, hb2⟩
    go_wp2_with fail
    go_ret
    exact ⟨rfl, hb1.trans (hb2.mono hb1.size)⟩
end Go.Proofs.YtfnlponoakhegaaDoor
namespace Go.Proofs.YtfnlponoakhegaaDoor
open Go.ChangeShapes Go.WideShapes Go.ChangeAt Go.RowKit Go.Joins
set_option linter.unusedVariables false

theorem Trydown : ownKnob Tryd.prog.godebug = none := by kernel_rfl
theorem Trydlaid : laidOutB Tryd.prog = true := by kernel_rfl

section
variable {H : Type} {enc : TypeId × Value → H} {P : Program}
theorem trodAll_below (hl : laidOutB P = true) {W W' : World} (hb : Below W.heap.size W W') : ∀ (ts : List TypeId) (vs : List Value) (ds : List (DataW H)) (ps : List MemPlace),
    (∀ t ∈ ts, P.readableRec t = true ∧ t < P.types.size) → DataW.TrodAll enc P W 0 (fun _ => true) true ts vs ds ps → (∀ x ∈ ps, x.block < W.heap.size) →
    DataW.TrodAll enc P W' 0 (fun b => decide (b < W.heap.size)) true ts vs ds ps := by
  intro ts
  induction ts with
  | nil =>
    intro vs ds ps _ h _
    cases vs <;> cases ds <;> first | exact h | exact h.elim
  | cons t ts ih =>
    intro vs ds ps ht h hx
    cases vs with
    | nil => exact h.elim
    | cons v vs =>
      cases ds with
      | nil => exact h.elim
      | cons d ds =>
        obtain ⟨p, q, hd, hr, rfl⟩ := h
        have h0 := ht t (List.mem_cons_self ..)
        exact ⟨p, q, Below.trod hl h0.1 h0.2 hd hb (fun x hm => hx x (List.mem_append_left _ hm)), ih vs ds q (fun t' hm => ht t' (List.mem_cons_of_mem _ hm)) hr (fun x hm => hx x (List.mem_append_right _ hm)), rfl⟩

/-- A law that returned true over a world that has only grown. -/
theorem law_post (hl : laidOutB P = true) {f : Func} {s : ChangeSpec} {W W' : World} {args : Array Value} {ds gs : List (DataW H)} {before : List MemPlace} {tb : TypeId}
    (hbool : P.underlying tb = some .bool)
    (hW : DataW.Whole enc P f.params.toList s.vars false W args.toList ds gs before) (hv : s.vars = []) (hr : f.resultTypes = #[tb])
    (hread0 : (f.params.toList.all fun t => P.readableRec t && decide (t < P.types.size)) = true)
    (hfn : s.fn H (ds ++ gs) = { results := [.lit (.bool true)], args := ds }) (hb : Below W.heap.size W W') :
    s.post enc P f false true false false W args (.bool true) W' := by
  have hread : ∀ t ∈ f.params.toList, P.readableRec t = true ∧ t < P.types.size := fun t ht => by simpa using List.all_eq_true.1 hread0 t ht
  have hlt := hW.lt
  obtain ⟨p, q, hA, hV, hpq, hz, hnd⟩ := hW
  rw [hv] at hV
  cases gs with
  | cons _ _ => exact hV.elim
  | nil =>
    have hq : q = [] := hV
    subst hq
    refine ⟨ds, [], before, [], p, [], ⟨p, [], hA, by rw [hv]; exact rfl, hpq, hz, hnd⟩, ?_, ?_, ?_, ?_, fun h => by cases h⟩
    · rw [hfn, hr]
      exact trodAll_mk1 (shut_bool hbool true)
    · rw [hfn]
      exact trodAll_below hl hb _ _ _ _ hread hA (fun x hx => by simpa using hlt x (by rw [hpq]; exact List.mem_append_left _ hx))
    · rw [hfn, hv]; exact rfl
    · exact hb.frame _
end
end Go.Proofs.YtfnlponoakhegaaDoor
namespace Go.Proofs.YtfnlponoakhegaaDoor
open Go
set_option linter.unusedVariables false
theorem rih_and_shaped {H : Type} {enc : TypeId × Value → H} {a : Assume} {C : Checked} {os : Os} {f : FuncId} {fn : Func} {s : ChangeSpec} {conds : List PathCond} {apart fresh handsOn again : Bool} {X : World → Array Value → Prop}
    (hX : ∀ (w w' : World) (args : Array Value), w.heap = w'.heap → X w args → X w' args)
    (own : ownKnob C.prog.godebug = none) (started : os.Started) (noInit : C.prog.inits.idxOf? f = none) (hfn : C.prog.funcs[f]? = some fn)
    (witness : ∃ (w : World) (tape : Tape) (i : Input), w.os = os ∧ (w.forCall tape i).Shaped C.prog ∧ i.vars = [] ∧ Input.okWide C.prog (w.forCall tape i) .any w.heap.size f i ∧
      ((s.pre enc C.prog fn conds apart (w.forCall tape i).memory i.args ∧ X (w.forCall tape i).memory i.args) ∧ sizedMet enc C.prog fn (OpenSpec.ofChange s) apart (w.forCall tape i).memory i.args) ∧ a.holds C.prog (lone (Frame.enter C.prog f i.args .normal) [] (w.forCall tape i)))
    (contract : ∀ (W : World) (base : Nat) (args : Array Value) (ds gs : List (DataW H)) (before : List MemPlace),
      (∀ (j : Nat) t v, fn.params[j]? = some t → args[j]? = some v → Value.okWide C.prog W .any base t v) →
      DataW.Whole enc C.prog fn.params.toList s.vars apart W args.toList ds gs before →
      conds.all (PathCond.test C.prog ⟨fn.params.toList, ds, s.plain.varTypes C.prog, gs⟩) = true →
      (DataW.weightsEach C.prog (fn.params.toList ++ s.plain.varTypes C.prog) (ds ++ gs)).all (· ≤ reachBytes) = true → X W args →
      W.ShapedOpen C.prog →
      a.holds C.prog (lone (Frame.enter C.prog f args .normal) [] W) →
      Calls C.prog f args W fun e W' => ∃ v, e = .returned v ∧ s.post enc C.prog fn apart fresh handsOn again W args v W') :
    ReturnsInHanded a C os f .any (fun w args => (s.pre enc C.prog fn conds apart w args ∧ X w args) ∧ sizedMet enc C.prog fn (OpenSpec.ofChange s) apart w args) (s.post enc C.prog fn apart fresh handsOn again) := by
  refine returnsInHanded_of_calls own started noInit witness ?_
  intro w tape i _ hsh _ hok hpre hholds
  obtain ⟨_, _, _, fn', hfn', _, _, _, _, hval⟩ := hok
  obtain rfl : fn' = fn := Option.some.inj (hfn'.symm.trans hfn)
  obtain ⟨⟨⟨ds, gs, before, hw, hc⟩, hx⟩, hz⟩ := hpre
  refine (contract (w.forCall tape i) w.heap.size i.args ds gs before hval (DataW.Whole.of_heap (w' := w.forCall tape i) (by rfl) hw) hc (hz.weights hw) (hX _ _ _ (by rfl) hx) hsh hholds).mono fun e W' ⟨v, he, hp⟩ => ?_
  subst he
  exact ChangeSpec.post_blind hp
end Go.Proofs.YtfnlponoakhegaaDoor
namespace Go.Proofs.YtfnlponoakhegaaDoor
open Go.ChangeShapes Go.WideShapes Go.ChangeAt Go.RowKit Go.Joins Go.Deep
open Go.ChangeMaps (open_string)
set_option linter.unusedVariables false
set_option linter.unusedSimpArgs false
theorem crcT_lits : (List.range 16).map (fun i => (DataW.lit (.int .u32 (crcT i : Nat)) : DataW Unit)) = match (Rows.laid_copyhold_cell_table : DataW Unit) with
  | .agg l => l
  | _ => [] := rfl
set_option maxRecDepth 100000 in
theorem tab_of {W : World} (h : laidMetH Tryd.prog Rows.tableKnownRow.laid W) : TabAt W := by
  rw [MakeChecks.laidMetH_plain _ _ _ (by kernel_rfl)] at h
  obtain ⟨ps, ⟨g, t, cs, fuel, p, q, hg, ht, hv, hd, _, _⟩, _, _⟩ := h
  obtain rfl := Option.some.inj ((show Tryd.prog.globalNamed "copyhold/cell.table" = some 0 by kernel_rfl).symm.trans hg)
  obtain rfl := Option.some.inj ((show (Tryd.prog.globals[0]?).map (·.type) = some 112 by kernel_rfl).symm.trans ht)
  obtain ⟨xs, m, _, ex, _, hl, hel⟩ := DataW.trod_array Tryd.underlying112 hd
  intro r hr
  have c5 : Tryd.prog.cellsOf 72 = 1 := by kernel_rfl
  have hE := hel r hr
  rw [c5, Nat.mul_one, List.getElem?_eq_getElem (by omega)] at hE
  obtain ⟨z, e1, e2, _⟩ := DataW.trod_int Tryd.underlying72 hE
  have e3 : (xs.map (·.1)) = (List.range 16).map (fun i => (DataW.lit (.int .u32 (crcT i : Nat)) : DataW Unit)) := (DataW.agg.inj (Prod.mk.inj ex).1).symm.trans crcT_lits.symm
  have e4 : (xs.map (·.1))[r]? = ((List.range 16).map (fun i => (DataW.lit (.int .u32 (crcT i : Nat)) : DataW Unit)))[r]? := by rw [e3]
  rw [List.getElem?_map, List.getElem?_map, List.getElem?_eq_getElem (by omega : r < xs.length), List.getElem?_range hr, e2] at e4
  have hz : z = (crcT r : Nat) := by simpa using e4
  rw [World.var?_cell hg hv r, ← hz]
  have : cs.toList[r]? = some (.int .u32 z) := by
    have h0 : ((cs.toList.drop r).take 1)[0]? = some (.int .u32 z) := by rw [e1]; rfl
    simpa using h0
  simpa using this
theorem gl_of {W : World} (h : laidMetH Tryd.prog Rows.tableKnownRow.laid W) (hsh : W.ShapedOpen Tryd.prog) : Gl W :=
  ⟨tab_of h, Go.Proofs.cell_of_shapedOpen_int (zero := #[.int .i64 0]) (t := 3) hsh (of_decide_eq_true (by kernel_rfl)) (by kernel_rfl) rfl (by kernel_rfl) (by kernel_rfl) Tryd.underlying3⟩
section
variable {H : Type} {enc : TypeId × Value → H} {P : Program} {w : World} {base : Nat} {spare : Nat → Bool} {held : Bool}
theorem open_slice_fields {t e : TypeId} {fs : Array Field} {fuel : Nat} {cs : List Value} {x : DataW H × List MemPlace} (ht : P.underlying t = some (.slice e)) (he : P.underlying e = some (.struct fs))
    (hone : oneCellFields P fs = true) (hC : P.cellsOf e = fs.size) (h : DataW.trod enc P w base spare held fuel t cs = some x) :
    (cs = [.slice none 0 0] ∧ x = (.nil, [])) ∨
    ∃ (a : Addr) (len cap m : Nat) (D : Nat → DataW H) (Pl : Nat → List MemPlace), cs = [.slice (some a) len cap] ∧ base ≤ a.block ∧ len ≤ cap ∧ cap ≤ maxLen ∧ m = (if spare a.block then cap else len) ∧
      x = (.slice ((List.range len).map D) ((List.range (m - len)).map fun j => D (len + j)), MemPlace.row a (m * fs.size) ++ (List.range m).flatMap Pl) ∧
      ∀ i, i < m → ∃ (ys : List (DataW H × List MemPlace)) (n : Nat), D i = .agg (ys.map (·.1)) ∧ Pl i = ys.flatMap (·.2) ∧ ys.length = fs.size ∧
        ∀ (j : Nat) (f : Field), fs[j]? = some f → ∃ (v : Value) (y : DataW H × List MemPlace), w.cell? (a.add (i * fs.size + j)) = some v ∧ ys[j]? = some y ∧ DataW.trod enc P w base spare held n f.type [v] = some y := by
  rcases open_slice ht h with h0 | ⟨a, len, cap, m, n, D, Pl, hcs, hb, hl, hm, hmm, hx, hi⟩
  · exact .inl h0
  · refine .inr ⟨a, len, cap, m, D, Pl, hcs, hb, hl, hm, hmm, by rw [hC] at hx; exact hx, fun i him => ?_⟩
    obtain ⟨cs', hc, ht'⟩ := hi i him
    rw [hC] at hc
    obtain ⟨ys, n', hn', hy, hlen, hyl, hf⟩ := DataW.trod_struct he ht'
    obtain ⟨_, hcl, hat⟩ := World.cells?_some hc
    simp only [Prod.mk.injEq] at hy
    refine ⟨ys, n', hy.1, hy.2, hyl, fun j f hj => ?_⟩
    obtain ⟨ho, hk⟩ := hone_of hone j f hj
    have hjl : j < fs.size := (Array.getElem?_eq_some_iff.1 hj).1
    have hcell := hat j hjl
    have hv : cs'[j]? = some (cs'[j]'(by omega)) := List.getElem?_eq_getElem (by omega)
    have h1 := hf j f hj
    rw [ho, hk] at h1
    have hone' : (cs'.drop j).take 1 = [cs'[j]'(by omega)] := by
      rw [List.drop_eq_getElem_cons (by omega)]
      rfl
    rw [hone'] at h1
    have hys : ys[j]? = some (ys[j]'(by omega)) := List.getElem?_eq_getElem (by omega)
    refine ⟨_, _, ?_, hys, h1.trans hys⟩
    rw [← Go.Deep.add_add, hcell, hv]
end

theorem plain_of_cell {w : World} {a : Addr} {v : Value} (h : w.cell? a = some v) : a = ⟨a.block, a.off, none⟩ := by
  obtain ⟨b, o, s⟩ := a
  cases s with
  | none => rfl
  | some s =>
    unfold World.cell? at h
    split at h <;> simp at h
theorem add_plain (b o n : Nat) : (⟨b, o, none⟩ : Addr).add n = ⟨b, o + n, none⟩ := by unfold Addr.add; split <;> simp_all


theorem list_of {T : Type} {P : Nat → T → Prop} : ∀ (n : Nat), (∀ i, i < n → ∃ x, P i x) → ∃ l : List T, l.length = n ∧ ∀ i x, l[i]? = some x → P i x
  | 0, _ => ⟨[], rfl, fun i x h => by simp at h⟩
  | n + 1, h => by
    obtain ⟨l, hl, hp⟩ := list_of n (fun i hi => h i (by omega))
    obtain ⟨x, hx⟩ := h n (by omega)
    refine ⟨l ++ [x], by simp [hl], fun i y hy => ?_⟩
    by_cases hi : i < l.length
    · rw [List.getElem?_append_left hi] at hy
      exact hp i y hy
    · rw [List.getElem?_append_right (by omega)] at hy
      have : i - l.length = 0 := by
        rcases Nat.eq_zero_or_pos (i - l.length) with h0 | h0
        · exact h0
        · rw [List.getElem?_eq_none (by simp; omega)] at hy; cases hy
      rw [this] at hy
      simp at hy
      subst hy
      have : i = n := by omega
      subst this
      exact hx
set_option maxRecDepth 100000 in
set_option maxHeartbeats 1000000 in
theorem ents_open {H : Type} {enc : TypeId × Value → H} {W : World} {base : Nat} {v : Value} {d : DataW H} {p : List MemPlace}
    (hv : Value.okWide Tryd.prog W .any base 41 v) (h : DataW.Trod enc Tryd.prog W 0 (fun _ => true) true 41 v d p) (hp : ∀ x ∈ p, x.block < W.heap.size) :
    ∃ A l cap, v = .slice A l.length cap ∧ Reads W W.heap.size 4 A l.length (entsC l) ∧ l.length ≤ maxLen ∧ ∀ e ∈ l, e.key.length ≤ 9223372036854775807 ∧ e.value.length ≤ 9223372036854775807 ∧ e.seq < 18446744073709551616 := by
  obtain ⟨A, n, cap, rfl⟩ := okWide_slice Tryd.underlying41 hv
  obtain ⟨fuel, hf⟩ := h
  rcases open_slice_fields Tryd.underlying41 Tryd.underlying33 (by kernel_rfl) (by kernel_rfl) hf with ⟨hcs, hx⟩ | ⟨a, len, cap', m, D, Pl, hcs, hb, hl, hm, hmm, hx, hi⟩
  · simp [Value.cells] at hcs
    obtain ⟨rfl, rfl, rfl⟩ := hcs
    exact ⟨none, [], 0, rfl, Reads.none_, by simp, by simp⟩
  · simp [Value.cells] at hcs
    obtain ⟨rfl, rfl, rfl⟩ := hcs
    simp at hmm
    subst hmm
    by_cases hn0 : n = 0
    · subst hn0
      exact ⟨some a, [], m, rfl, ⟨rfl, fun h => absurd h (by simp)⟩, by simp, by simp⟩
    have hpl : a = ⟨a.block, a.off, none⟩ := by
      obtain ⟨ys, n0, h1, h2, h3, h4⟩ := hi 0 (by omega)
      obtain ⟨v, y, hc, _, _⟩ := h4 0 _ rfl
      have e0 : a.add (0 * 4 + 0) = a := by unfold Addr.add; simp
      have hc' := plain_of_cell hc
      rw [show (#[_, _, _, _] : Array Field).size = 4 from rfl] at hc'
      rw [e0] at hc'
      exact hc'
    have hblk : a.block < W.heap.size := by
      have hx2 := (Prod.mk.inj hx).2
      exact hp (.cell a.block a.off) (by rw [hx2]; refine List.mem_append_left _ ?_; rw [hpl]; simp [MemPlace.row]; omega)
    have hall : ∀ k, k < n → ∃ x : Ent, W.cell? (a.add (k * 4)) = some (.string (bs x.key)) ∧ W.cell? (a.add (k * 4 + 1)) = some (.string (bs x.value)) ∧ W.cell? (a.add (k * 4 + 2)) = some (.int .u64 (x.seq : Nat)) ∧ W.cell? (a.add (k * 4 + 3)) = some (.bool x.gone) ∧ (x.key.length ≤ 9223372036854775807 ∧ x.value.length ≤ 9223372036854775807 ∧ x.seq < 18446744073709551616) := by
      intro k hk
      obtain ⟨ys, n0, h1, h2, h3, h4⟩ := hi k (by omega)
      obtain ⟨v0, y0, c0, _, t0⟩ := h4 0 _ rfl
      obtain ⟨v1, y1, c1, _, t1⟩ := h4 1 _ rfl
      obtain ⟨v2, y2, c2, _, t2⟩ := h4 2 _ rfl
      obtain ⟨v3, y3, c3, _, t3⟩ := h4 3 _ rfl
      obtain ⟨x0, e0, rfl, w0⟩ := DataW.trod_string Tryd.underlying9 t0
      obtain ⟨x1, e1, rfl, w1⟩ := DataW.trod_string Tryd.underlying9 t1
      obtain ⟨x2, e2, rfl, w2⟩ := DataW.trod_int Tryd.underlying24 t2
      obtain ⟨x3, e3, rfl⟩ := DataW.trod_bool Tryd.underlying4 t3
      simp at e0 e1 e2 e3
      subst e0 e1 e2 e3
      have b2 := bounds_u64 w2
      rw [show (#[_, _, _, _] : Array Field).size = 4 from rfl] at c0 c1 c2 c3
      unfold maxLen at w0 w1
      refine ⟨⟨x0.data.toList, x1.data.toList, x2.toNat, x3⟩, ?_, ?_, ?_, c3, ⟨by simp only [dlen]; omega, by simp only [dlen]; omega, by simp only []; omega⟩⟩
      · simp only [bs_of]
        simpa using c0
      · simp only [bs_of]
        exact c1
      · simp only []
        rw [show ((x2.toNat : Nat) : Int) = x2 from by omega]
        exact c2
    obtain ⟨l, hl2, hP⟩ := list_of n hall
    refine ⟨some a, l, m, by rw [hl2], ⟨by rw [entsC_len]; omega, fun hn => ⟨a, rfl, hblk, fun j u hu => ?_⟩⟩, by rw [hl2]; omega, fun x hx => ?_⟩
    · have hj : j < l.length * 4 := by
        rcases Nat.lt_or_ge j (l.length * 4) with h | h
        · exact h
        · rw [List.getElem?_eq_none (by rw [entsC_len]; omega)] at hu; cases hu
      have hk : j / 4 < l.length := by omega
      have hget := List.getElem?_eq_getElem hk
      obtain ⟨p0, p1, p2, p3, _⟩ := hP _ _ hget
      obtain ⟨q0, q1, q2, q3⟩ := entsC_at l _ _ hget
      have hr : j = j / 4 * 4 ∨ j = j / 4 * 4 + 1 ∨ j = j / 4 * 4 + 2 ∨ j = j / 4 * 4 + 3 := by omega
      rcases hr with e | e | e | e <;> rw [e] at hu ⊢
      · rw [p0]; rw [q0] at hu; exact hu
      · rw [p1]; rw [q1] at hu; exact hu
      · rw [p2]; rw [q2] at hu; exact hu
      · rw [p3]; rw [q3] at hu; exact hu
    · obtain ⟨i, hi2, rfl⟩ := List.mem_iff_getElem.1 hx
      exact (hP i _ (List.getElem?_eq_getElem hi2)).2.2.2.2
end Go.Proofs.YtfnlponoakhegaaDoor
