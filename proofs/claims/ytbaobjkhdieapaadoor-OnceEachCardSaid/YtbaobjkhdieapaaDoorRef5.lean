/- The document's list of last answers: Keep. -/
import Derived.Test.YtbaobjkhdieapaaDoorRef4
namespace Go.Proofs.YtbaobjkhdieapaaDoor
open Go.RowKit
set_option linter.unusedVariables false
set_option linter.unusedSimpArgs false

/-- A row of three cells each that the call owns, in a list's words. -/
def OwnL (w : World) (B : Nat) (v : Value) (l : List Last3) : Prop := w.ownsRow B 62 3 v l.length (lastsV l)
def rKeepL (l : List Last3) (c n : Nat) (a : ByteArray) : List Last3 := l.filter (fun o => decide (o.c ≠ c)) ++ [⟨c, n, a⟩]
theorem last_info : (Tryd.prog.info? 62).map (fun i => (i.zero, i.size, i.bytes)) = some (some (.agg #[.int .u8 0, .int .u64 0, .string ⟨#[]⟩]), 3, 32) := by kernel_rfl
theorem reads3 (w : World) (t : TypeId) (x y z : Value) : Reads (w.alloc (.cells #[x, y, z] t)) (w.heap.size + 1) 3 (some ⟨w.heap.size, 0, none⟩) 1 [x, y, z] := by
  refine ⟨rfl, fun _ => ⟨_, rfl, by simp, fun j u hu => ?_⟩⟩
  have e1 : (⟨w.heap.size, 0, none⟩ : Addr).add j = ⟨w.heap.size, j, none⟩ := by cases j <;> simp [Addr.add]
  rw [e1, World.cell?_alloc_new]
  have hj : j < 3 := by
    rcases Nat.lt_or_ge j 3 with h | h
    · exact h
    · rw [List.getElem?_eq_none (by simp; omega)] at hu; cases hu
  match j, hj with
  | 0, _ => exact hu
  | 1, _ => exact hu
  | 2, _ => exact hu
theorem OwnL.snoc {w : World} {B : Nat} {v : Value} {l : List Last3} (o : Last3) (h : w.ownsRow B 62 3 v (l.length + 1) (lastsV l ++ [.int .u8 o.c, .int .u64 o.n, .string o.a])) : OwnL w B v (l ++ [o]) := by
  unfold OwnL
  rw [lastsV_append, lastsV_one, List.length_append]
  exact h

set_option maxRecDepth 100000 in
set_option maxHeartbeats 4000000 in
theorem RKeep_any (A : Option Addr) (l : List Last3) (cap c n : Nat) (a : ByteArray) (w : World) (hr : Reads w w.heap.size 3 A l.length (lastsV l)) (hlen : l.length ≤ 1048576) (hc : c ≤ 255) (hn : (n : Int) ≤ 18446744073709551615) (hl : ∀ o ∈ l, o.c ≤ 255) (ha : a.size ≤ 9223372036854775807) :
    Calls Tryd.prog 14 #[.slice A l.length cap, .int .u8 c, .int .u64 n, .string a] w fun e w' => ∃ v, e = .returned v ∧ OwnL w' w.heap.size v (rKeepL l c n (bs (a.data.toList.take 480))) ∧ Below w.heap.size w w' := by
  obtain ⟨i0, hi0, hz0, hz1, hz2⟩ := info_parts last_info
  by_cases h480 : 480 < a.size
  · have h480' : (480 : Int) < a.size := by omega
    have hA : a.extract 0 480 = bs (a.data.toList.take 480) := by rw [ext_bs]; simp
    replace hA := Lib.hid hA
    go_enter Tryd.func14, Tryd.ntmps14
    go_wp2
    go_loopw [9, 10] (fun v i wr => ∃ k : Nat, k ≤ l.length ∧ i = .int .i64 k ∧ OwnL wr w.heap.size v ((l.take k).filter (fun o => decide (o.c ≠ c))) ∧ Below w.heap.size w wr) (fun _ i _ => l.length - (intOf i).toNat)
    case atStart => exact ⟨0, Nat.zero_le _, rfl, World.ownsRow_nil _ _ _ 3, Below.refl _ _⟩
    case round =>
      obtain ⟨k, hk, rfl, ho, hb0⟩ := hrel
      have hz := hb0.size
      by_cases hlt : k < l.length
      · obtain ⟨ad, rfl, hab, hcell⟩ := (hr.below hb0).2 (by omega)
        have hx := List.getElem?_eq_getElem hlt
        obtain ⟨q0, q1, q2⟩ := lastsV_at l k _ hx
        replace q0 := hcell _ _ q0
        replace q1 := hcell _ _ q1
        replace q2 := hcell _ _ q2
        rw [← add_of_add, add_pos] at q1 q2
        have b1 := hl _ (List.getElem_mem hlt)
        have hsn : (l.take (k + 1)).filter (fun o => decide (o.c ≠ c)) = (l.take k).filter (fun o => decide (o.c ≠ c)) ++ [l[k]].filter (fun o => decide (o.c ≠ c)) := by rw [List.take_succ_eq_append_getElem hlt, List.filter_append]
        have hfl : ((l.take k).filter (fun o => decide (o.c ≠ c))).length ≤ k := Nat.le_trans (List.length_filter_le _ _) (by rw [List.length_take]; omega)
        replace hx := Lib.hid hx
        generalize l[k] = o at *
        generalize (l.take k).filter (fun o => decide (o.c ≠ c)) = L at *
        clear hcell
        by_cases h1 : o.c = c
        · have hsn' : (l.take (k + 1)).filter (fun o => decide (o.c ≠ c)) = L := by rw [hsn]; simp [h1]
          have h1' : (o.c : Int) = c := by omega
          replace hsn := Lib.hid hsn
          replace hsn' := Lib.hid hsn'
          replace h1 := Lib.hid h1
          replace h1' := Lib.hid h1'
          have d2 : ((o.c : Int) != (c : Int)) = false := by rw [h1'.out]; simp
          have d3 : ¬ (¬ (o.c : Int) = (c : Int)) := by rw [h1'.out]; simp
          have d4 : (o.c : Int) = (c : Int) := h1'.out
          go_wp2_with fail
          exact ⟨⟨k + 1, by omega, by go_num, by rw [hsn'.out]; exact ho, hb0⟩, by simp [intOf]; omega⟩
        · have hsn' : (l.take (k + 1)).filter (fun o => decide (o.c ≠ c)) = L ++ [o] := by rw [hsn]; simp [h1]
          have h1' : ¬ (o.c : Int) = c := by omega
          replace hsn := Lib.hid hsn
          replace hsn' := Lib.hid hsn'
          replace h1 := Lib.hid h1
          have ho1 := World.ownsRow.alloc ho (.cells #[.int .u8 o.c, .int .u64 o.n, .string o.a] 62)
          have hrd := reads3 wr 62 (.int .u8 o.c) (.int .u64 o.n) (.string o.a)
          replace hfl := Lib.hid hfl
          go_wp2_with (at_builtin; refine wpList_append_any _ rfl (.tmp 29) (.tmp 34) _ rfl w.heap.size 62 i0 _ 3 32 Tryd.underlying38 hi0 hz0 hz1 hz2 rfl (by omega) _ L.length (lastsV L) rfl ho1 (wr.heap.size + 1) (some ⟨wr.heap.size, 0, none⟩) 1 1 _ rfl hrd (fun u hu => by simp at hu; rcases hu with rfl | rfl | rfl <;> rfl) (by have := hfl.out; unfold maxLen; omega) (by have := hfl.out; omega) (by simp; omega) ?_)
          intro v' w2 ho2 hg2 hat2
          go_wp2_with fail
          refine ⟨⟨k + 1, by omega, by go_num, by rw [hsn'.out]; exact OwnL.snoc o ho2, ?_⟩, by simp [intOf]; omega⟩
          exact (hb0.alloc hz _).grown hg2 (by simp; omega) (fun k hk => (World.ownsRow.lt ho k hk).1)
      · obtain rfl : k = l.length := by omega
        rw [List.take_length] at ho
        have hfl : (l.filter (fun o => decide (o.c ≠ c))).length ≤ l.length := List.length_filter_le _ _
        generalize hL : l.filter (fun o => decide (o.c ≠ c)) = L at *
        replace hL := Lib.hid hL
        have ho1 := World.ownsRow.alloc ho (.cells #[.int .u8 c, .int .u64 n, .string (a.extract 0 480)] 62)
        have hrd := reads3 wr 62 (.int .u8 c) (.int .u64 n) (.string (a.extract 0 480))
        replace hfl := Lib.hid hfl
        go_wp2_with (at_builtin; refine wpList_append_any _ rfl (.tmp 36) (.tmp 41) _ rfl w.heap.size 62 i0 _ 3 32 Tryd.underlying38 hi0 hz0 hz1 hz2 rfl (by omega) _ L.length (lastsV L) rfl ho1 (wr.heap.size + 1) (some ⟨wr.heap.size, 0, none⟩) 1 1 _ rfl hrd (fun u hu => by simp at hu; rcases hu with rfl | rfl | rfl <;> rfl) (by have := hfl.out; unfold maxLen; omega) (by have := hfl.out; omega) (by simp; omega) ?_)
        intro v' w2 ho2 hg2 hat2
        go_wp2_with fail
        go_ret
        refine ⟨_, rfl, ?_, (hb0.alloc hz _).grown hg2 (by simp; omega) (fun k hk => (World.ownsRow.lt ho k hk).1)⟩
        unfold rKeepL
        rw [hL.out, ← hA.out]
        exact OwnL.snoc ⟨c, n, a.extract 0 480⟩ ho2
  · have h480' : ¬ (480 : Int) < a.size := by omega
    have hA : a = bs (a.data.toList.take 480) := by rw [List.take_of_length_le (by rw [dlen]; omega), bs_of]
    replace hA := Lib.hid hA
    go_enter Tryd.func14, Tryd.ntmps14
    go_wp2
    go_loopw [9, 10] (fun v i wr => ∃ k : Nat, k ≤ l.length ∧ i = .int .i64 k ∧ OwnL wr w.heap.size v ((l.take k).filter (fun o => decide (o.c ≠ c))) ∧ Below w.heap.size w wr) (fun _ i _ => l.length - (intOf i).toNat)
    case atStart => exact ⟨0, Nat.zero_le _, rfl, World.ownsRow_nil _ _ _ 3, Below.refl _ _⟩
    case round =>
      obtain ⟨k, hk, rfl, ho, hb0⟩ := hrel
      have hz := hb0.size
      by_cases hlt : k < l.length
      · obtain ⟨ad, rfl, hab, hcell⟩ := (hr.below hb0).2 (by omega)
        have hx := List.getElem?_eq_getElem hlt
        obtain ⟨q0, q1, q2⟩ := lastsV_at l k _ hx
        replace q0 := hcell _ _ q0
        replace q1 := hcell _ _ q1
        replace q2 := hcell _ _ q2
        rw [← add_of_add, add_pos] at q1 q2
        have b1 := hl _ (List.getElem_mem hlt)
        have hsn : (l.take (k + 1)).filter (fun o => decide (o.c ≠ c)) = (l.take k).filter (fun o => decide (o.c ≠ c)) ++ [l[k]].filter (fun o => decide (o.c ≠ c)) := by rw [List.take_succ_eq_append_getElem hlt, List.filter_append]
        have hfl : ((l.take k).filter (fun o => decide (o.c ≠ c))).length ≤ k := Nat.le_trans (List.length_filter_le _ _) (by rw [List.length_take]; omega)
        replace hx := Lib.hid hx
        generalize l[k] = o at *
        generalize (l.take k).filter (fun o => decide (o.c ≠ c)) = L at *
        clear hcell
        by_cases h1 : o.c = c
        · have hsn' : (l.take (k + 1)).filter (fun o => decide (o.c ≠ c)) = L := by rw [hsn]; simp [h1]
          have h1' : (o.c : Int) = c := by omega
          replace hsn := Lib.hid hsn
          replace hsn' := Lib.hid hsn'
          replace h1 := Lib.hid h1
          replace h1' := Lib.hid h1'
          have d2 : ((o.c : Int) != (c : Int)) = false := by rw [h1'.out]; simp
          have d3 : ¬ (¬ (o.c : Int) = (c : Int)) := by rw [h1'.out]; simp
          have d4 : (o.c : Int) = (c : Int) := h1'.out
          go_wp2_with fail
          exact ⟨⟨k + 1, by omega, by go_num, by rw [hsn'.out]; exact ho, hb0⟩, by simp [intOf]; omega⟩
        · have hsn' : (l.take (k + 1)).filter (fun o => decide (o.c ≠ c)) = L ++ [o] := by rw [hsn]; simp [h1]
          have h1' : ¬ (o.c : Int) = c := by omega
          replace hsn := Lib.hid hsn
          replace hsn' := Lib.hid hsn'
          replace h1 := Lib.hid h1
          have ho1 := World.ownsRow.alloc ho (.cells #[.int .u8 o.c, .int .u64 o.n, .string o.a] 62)
          have hrd := reads3 wr 62 (.int .u8 o.c) (.int .u64 o.n) (.string o.a)
          replace hfl := Lib.hid hfl
          go_wp2_with (at_builtin; refine wpList_append_any _ rfl (.tmp 29) (.tmp 34) _ rfl w.heap.size 62 i0 _ 3 32 Tryd.underlying38 hi0 hz0 hz1 hz2 rfl (by omega) _ L.length (lastsV L) rfl ho1 (wr.heap.size + 1) (some ⟨wr.heap.size, 0, none⟩) 1 1 _ rfl hrd (fun u hu => by simp at hu; rcases hu with rfl | rfl | rfl <;> rfl) (by have := hfl.out; unfold maxLen; omega) (by have := hfl.out; omega) (by simp; omega) ?_)
          intro v' w2 ho2 hg2 hat2
          go_wp2_with fail
          refine ⟨⟨k + 1, by omega, by go_num, by rw [hsn'.out]; exact OwnL.snoc o ho2, ?_⟩, by simp [intOf]; omega⟩
          exact (hb0.alloc hz _).grown hg2 (by simp; omega) (fun k hk => (World.ownsRow.lt ho k hk).1)
      · obtain rfl : k = l.length := by omega
        rw [List.take_length] at ho
        have hfl : (l.filter (fun o => decide (o.c ≠ c))).length ≤ l.length := List.length_filter_le _ _
        generalize hL : l.filter (fun o => decide (o.c ≠ c)) = L at *
        replace hL := Lib.hid hL
        have ho1 := World.ownsRow.alloc ho (.cells #[.int .u8 c, .int .u64 n, .string (a)] 62)
        have hrd := reads3 wr 62 (.int .u8 c) (.int .u64 n) (.string (a))
        replace hfl := Lib.hid hfl
        go_wp2_with (at_builtin; refine wpList_append_any _ rfl (.tmp 36) (.tmp 41) _ rfl w.heap.size 62 i0 _ 3 32 Tryd.underlying38 hi0 hz0 hz1 hz2 rfl (by omega) _ L.length (lastsV L) rfl ho1 (wr.heap.size + 1) (some ⟨wr.heap.size, 0, none⟩) 1 1 _ rfl hrd (fun u hu => by simp at hu; rcases hu with rfl | rfl | rfl <;> rfl) (by have := hfl.out; unfold maxLen; omega) (by have := hfl.out; omega) (by simp; omega) ?_)
        intro v' w2 ho2 hg2 hat2
        go_wp2_with fail
        go_ret
        refine ⟨_, rfl, ?_, (hb0.alloc hz _).grown hg2 (by simp; omega) (fun k hk => (World.ownsRow.lt ho k hk).1)⟩
        unfold rKeepL
        rw [hL.out, ← hA.out]
        exact OwnL.snoc ⟨c, n, a⟩ ho2
end Go.Proofs.YtbaobjkhdieapaaDoor
