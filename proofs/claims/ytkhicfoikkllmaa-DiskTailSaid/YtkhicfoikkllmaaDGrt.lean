/- Contracts: Great, GreatCrash. -/
import Derived.Test.YtkhicfoikkllmaaDAct
namespace Go.Proofs.Ytkhicfoikkllmaa
open Go.RowKit
set_option linter.unusedVariables false
set_option linter.unusedSimpArgs false
theorem mactsV_at : ∀ (l : List MAct) (k : Nat) (m : MAct), l[k]? = some m → ∀ j u, (mactC m)[j]? = some u → (mactsV l)[k * 7 + j]? = some u
  | [], k, m, h => by simp at h
  | a :: l, 0, m, h => by
    intro j u hu
    simp at h
    subst h
    have hj : j < 7 := (List.getElem?_eq_some_iff.1 hu).1
    show (mactC a ++ mactsV l)[0 * 7 + j]? = some u
    rw [List.getElem?_append_left (by show 0 * 7 + j < 7; omega), Nat.zero_mul, Nat.zero_add, hu]
  | a :: l, k + 1, m, h => by
    intro j u hu
    have ih := mactsV_at l k m (by simpa using h) j u hu
    show (mactC a ++ mactsV l)[(k + 1) * 7 + j]? = some u
    rw [List.getElem?_append_right (by show 7 ≤ _; omega)]
    rw [show (k + 1) * 7 + j - (mactC a).length = k * 7 + j from by show (k + 1) * 7 + j - 7 = _; omega]
    exact ih
structure ActsAt (B : Nat) (w : World) (A : Option Addr) (l : List MAct) : Prop where
  rd : Reads w B 7 A l.length (mactsV l)
  ok : ∀ m ∈ l, MOk B w m
theorem ActsAt.below {B C : Nat} {w w' : World} {A : Option Addr} {l : List MAct} (h : ActsAt B w A l) (hb : Below C w w') (hC : B ≤ C) : ActsAt B w' A l := ⟨h.rd.below (hb.mono hC), fun m hm => (h.ok m hm).below hb hC⟩
theorem ActsAt.at_ {B : Nat} {w : World} {A : Option Addr} {l : List MAct} (h : ActsAt B w A l) {k : Nat} {m : MAct} (hk : l[k]? = some m) : ∃ b o, A = some ⟨b, o, none⟩ ∧ b < B ∧ w.cell? ⟨b, o + k * 7, none⟩ = some (.int .u8 (m.x.c : Nat)) ∧ w.cell? ⟨b, o + k * 7 + 1, none⟩ = some (.string m.x.a) ∧
    w.cell? ⟨b, o + k * 7 + 2, none⟩ = some (.string m.x.b) ∧ w.cell? ⟨b, o + k * 7 + 3, none⟩ = some (.int .i64 m.x.n) ∧ w.cell? ⟨b, o + k * 7 + 4, none⟩ = some (.int .i64 m.x.cr.names) ∧
    w.cell? ⟨b, o + k * 7 + 5, none⟩ = some (.slice m.KA m.x.cr.keep.length m.kc) ∧ w.cell? ⟨b, o + k * 7 + 6, none⟩ = some (.slice m.PA m.x.cr.spoil.length m.pc) := by
  have hkl := (List.getElem?_eq_some_iff.1 hk).1
  obtain ⟨ad, e, hB, hc⟩ := h.rd.2 (by omega)
  have h0 : ∃ u, (mactsV l)[0]? = some u := by
    have := mactsV_at l 0 l[0] (List.getElem?_eq_getElem (by omega)) 0 _ rfl
    exact ⟨_, this⟩
  obtain ⟨u0, h0⟩ := h0
  obtain ⟨b, o, rfl⟩ := plain_add (hc 0 u0 h0)
  have hat := mactsV_at l k m hk
  have q := fun j u (hj : (mactC m)[j]? = some u) => hc _ _ (hat j u hj)
  simp only [add_plain2, ← Nat.add_assoc] at q
  exact ⟨b, o, e, hB, q 0 _ rfl, q 1 _ rfl, q 2 _ rfl, q 3 _ rfl, q 4 _ rfl, q 5 _ rfl, q 6 _ rfl⟩
/-- A truth is answered; if it is false, that. -/
def SaysOr (w : World) (P : Prop) (e : Ending) (w' : World) : Prop := ∃ r : Bool, e = .returned (.bool r) ∧ (r = false → P) ∧ Below w.heap.size w w'
set_option maxRecDepth 100000 in
set_option maxHeartbeats 1000000 in
theorem GreatCrash_any (w : World) (c : Cra) (KA PA : Option Addr) (kc pc : Nat) :
    Calls Try.prog 9 #[craV c KA kc PA pc] w (SaysOr w (c.keep.length ≤ 100 ∧ c.spoil.length ≤ 100)) := by
  have hal : Below w.heap.size w (w.alloc (.cells #[.int .i64 c.names, .slice KA c.keep.length kc, .slice PA c.spoil.length pc] 26)) := (Below.refl _ _).alloc (Nat.le_refl _) _
  unfold craV
  by_cases h1 : 100 < c.keep.length
  · have h1' : (100 : Int) < c.keep.length := by omega
    go_enter Try.func9, Try.ntmps9
    go_wp2
    go_ret
    exact ⟨true, rfl, (fun h => by cases h), hal⟩
  · have h1' : ¬ (100 : Int) < c.keep.length := by omega
    by_cases h2 : 100 < c.spoil.length
    · have h2' : (100 : Int) < c.spoil.length := by omega
      go_enter Try.func9, Try.ntmps9
      go_wp2
      go_ret
      exact ⟨true, rfl, (fun h => by cases h), hal⟩
    · have h2' : ¬ (100 : Int) < c.spoil.length := by omega
      go_enter Try.func9, Try.ntmps9
      go_wp2
      go_ret
      exact ⟨false, rfl, fun _ => ⟨by omega, by omega⟩, hal⟩
set_option maxRecDepth 100000 in
set_option maxHeartbeats 2000000 in
theorem Great_any {B : Nat} (w : World) (A : Option Addr) (l : List MAct) (cap : Nat) (h : ActsAt B w A l) (hB : B ≤ w.heap.size) (hll : l.length ≤ maxLen) :
    Calls Try.prog 8 #[.slice A l.length cap] w (SaysOr w (l.length ≤ 120 ∧ ∀ m ∈ l, MSmall m)) := by
  by_cases h0 : 120 < l.length
  · have h0' : (120 : Int) < l.length := by omega
    go_enter Try.func8, Try.ntmps8
    go_wp2
    go_ret
    exact ⟨true, rfl, (fun h => by cases h), Below.refl _ _⟩
  · have h0' : ¬ (120 : Int) < l.length := by omega
    replace h := Lib.hid h
    go_enter Try.func8, Try.ntmps8
    go_wp2_with fail
    go_loopw [3, 4] (fun nv iv wr => ∃ (k : Nat) (nn : Nat), k ≤ l.length ∧ iv = .int .i64 k ∧ nv = .int .i64 nn ∧ nn ≤ 40000 * k ∧ (∀ m ∈ l.take k, MSmall m) ∧ Below w.heap.size w wr) (fun _ iv _ => l.length - (intOf iv).toNat)
    case atStart => exact ⟨0, 0, Nat.zero_le _, rfl, rfl, Nat.zero_le _, (fun m hm => by simp at hm), Below.refl _ _⟩
    case round =>
      obtain ⟨k, nn, hk, rfl, rfl, hnn, hsm, hbr⟩ := hrel
      by_cases hlt : k < l.length
      · have hlt' : (k : Int) < l.length := by omega
        have hkm : l[k]? = some l[k] := List.getElem?_eq_getElem hlt
        have hmm := h.out.ok _ (List.getElem_mem hlt)
        obtain ⟨b, o, rfl, hbB, q0, q1, q2, q3, q4, q5, q6⟩ := (h.out.below hbr hB).at_ hkm
        generalize l[k] = m at *
        have hza := hmm.a
        have hzb := hmm.b
        have hbz := hbr.size
        have hbw : b < wr.heap.size := by omega
        clear hmm
        unfold maxLen at hza hzb
        have hgc := GreatCrash_any
        replace hgc := Lib.hid hgc
        replace hkm := Lib.hid hkm
        replace hsm := Lib.hid hsm
        replace hbr := Lib.hid hbr
        by_cases ha : 20000 < m.x.a.size
        · have ha' : (20000 : Int) < m.x.a.size := by omega
          go_wp2_with fail
          go_ret
          exact ⟨true, rfl, (fun h => by cases h), hbr.out⟩
        · have ha' : ¬ (20000 : Int) < m.x.a.size := by omega
          by_cases hb : 20000 < m.x.b.size
          · have hb' : (20000 : Int) < m.x.b.size := by omega
            go_wp2_with fail
            go_ret
            exact ⟨true, rfl, (fun h => by cases h), hbr.out⟩
          · have hb' : ¬ (20000 : Int) < m.x.b.size := by omega
            go_wp2_with fail
            refine (hgc.out wr m.x.cr m.KA m.PA m.kc m.pc).mono ?_
            rintro e w2 ⟨r, rfl, hr, hb2⟩
            cases r with
            | true =>
              have hbf := hbr.out.trans (hb2.mono hbz)
              clear hb2
              replace hbf := Lib.hid hbf
              go_wp2_with fail
              go_ret
              exact ⟨true, rfl, (fun h => by cases h), hbf.out⟩
            | false =>
              have hms : MSmall m := ⟨by omega, by omega, (hr rfl).1, (hr rfl).2⟩
              have r1 := (hb2.cell (p := ⟨b, o + k * 7 + 1, none⟩) hbw).trans q1
              have r2 := (hb2.cell (p := ⟨b, o + k * 7 + 2, none⟩) hbw).trans q2
              have hbf := hbr.out.trans (hb2.mono hbz)
              have hbw2 : b < w2.heap.size := by have := hb2.size; omega
              have hnx : ∀ m' ∈ l.take (k + 1), MSmall m' := by
                intro m' hm'
                rw [List.take_add_one, hkm.out] at hm'
                rcases List.mem_append.1 hm' with h1 | h1
                · exact hsm.out m' h1
                · simp at h1; rw [h1]; exact hms
              replace hnx := Lib.hid hnx
              have hb2z := hb2.size
              clear q0 q1 q2 q3 q4 q5 q6 hb2 hr
              replace hbf := Lib.hid hbf
              replace hms := Lib.hid hms
              go_wp2_with fail
              have hxc := @Ext.cell
              have hxf := @Ext.frozen
              refine wp_hide (fun Q0 hQ0 => ?_)
              refine wp_region_line (fun w' => ∃ x : Ext _, w' = x.w) [some false, some false, some false, some false, some false, some false, some false, some false, some false, some false, some false, some false, some false, some false, some false, some false] 0 (by kernel_rfl) (by kernel_rfl) ⟨⟨_, (Below.refl _ _).drew⟩, rfl⟩ ?_
              simp only [earlyL, tailL]
              repeat (first | ((with_reducible refine wpMix_p ?_); go_big_quiet_step (fail); refine wpQuiet_nil ?_) | ((with_reducible refine wpMix_e ?_); go_big_quiet_step ((first | fail)); refine wpQuiet_nil ?_))
              refine wpMix_nil ?_
              clear hxc hxf
              intro wx hwx
              obtain ⟨x, hx⟩ := hwx
              have hb := x.below
              rw [← hx] at hb
              clear hx x
              refine wpTail_nil ?_
              refine hQ0 _ _ ?_
              clear hQ0 Q0
              have hbg := hbf.out.trans (hb.mono (by omega))
              replace hbg := Lib.hid hbg
              clear hb r1 r2
              go_wp2_with fail
              go_roundw
              case rel => exact ⟨k + 1, nn + m.x.a.size + m.x.b.size, by omega, by rfl, by go_num, by omega, hnx.out, hbg.out⟩
              case measure => first | omega | (simp only [intOf]; omega)
      · obtain rfl : k = l.length := by omega
        have hlt' : ¬ (l.length : Int) < l.length := by omega
        have hall : ∀ m ∈ l, MSmall m := fun m hm => hsm m (by rw [List.take_length]; exact hm)
        replace hall := Lib.hid hall
        replace hsm := Lib.hid hsm
        replace hbr := Lib.hid hbr
        go_wp2_with fail
        go_ret
        exact ⟨_, rfl, fun _ => ⟨by omega, hall.out⟩, hbr.out⟩
end Go.Proofs.Ytkhicfoikkllmaa
